/- A semantics of the code by an evaluator over plain values, and that it is sound. No condition. -/
import Derived.Orders
import Derived.Below
import Derived.Laws.Cells
import Derived.Laws.CopyRow
import Derived.Laws.Sem
import Derived.Laws.StructEq
import Derived.Lib.Strings
import Derived.Laws.Strings
import Derived.Lib.SmallJoins
import Derived.Laws.Tables
import Derived.Lib.ConvBytes
import Derived.Laws.AppendOwn
set_option linter.unusedVariables false
namespace Go.Proofs.YtjojaiomgdjhfaaGreatDoor.AE
open Go
inductive Oid where
  | loc (d:Nat)
  | ext (i:Nat)
  | cl (o:Oid) (j:Nat)
  deriving DecidableEq
def Oid.root:Oid→Oid
  | .cl o _=>o.root
  | o=>o
inductive Tok where
  | none
  | full
  | buf (b:Oid)
  deriving DecidableEq
inductive AV where
  | undef
  | bool (b:Bool)
  | int (k:IntKind) (n:Int)
  | str (s:List UInt8)
  | nilp
  | ptr (b:Oid) (off:Nat)
  | pin (cs:List AV)
  | nils
  | slice (tok:Tok) (s:Nat) (es:List AV)
  | mref (b:Oid) (s off len cap:Nat)
  | nilm
  | mapr (b:Oid)
  | mapf (ks vs:List AV)
  | nilf
  | fn (f:Fn) (first captured:List AV)
  | nili
  | iface (t:TypeId) (v:AV)
  | agg (cs:List AV)
  | tuple (vs:List AV)
inductive Fl where
  | ro
  | rw
  | mw
  | mk (kd:IntKind) (ks:List Int) (n:Nat)
  deriving DecidableEq
inductive Ob where
  | cells (wr:Fl) (cs:List AV)
  | buf (s n:Nat)
def Fl.row:Fl→Bool
  | .ro=>true
  | .rw=>true
  | _=>false
abbrev Slots:=List (Nat × AV)
abbrev Heap:=List (Oid × Ob)
def find {K α:Type} [DecidableEq K]:List (K × α)→K→Option α
  | [],_=>none
  | (k',v) :: r,k=>if k' = k then some v else find r k
def ins {K α:Type} [DecidableEq K] (k:K) (v:α):List (K × α)→List (K × α)
  | []=>[(k,v)]
  | (k',v') :: r=>if k' = k then (k,v) :: r else (k',v') :: ins k v r
def put (k:Nat) (v:AV):Slots→Slots
  | []=>[(k,v)]
  | (k',v') :: r=>if k < k' then (k,v) :: (k',v') :: r else if k' = k then (k,v) :: r else (k',v') :: put k v r
def getA (A:Slots) (t:Nat):AV:=(find A t).getD .undef
mutual
def refs:AV→List Oid
  | .ptr b _=>[b]
  | .mref b _ _ _ _=>[b]
  | .mapr b=>[b]
  | .fn _ a b=>refsL a ++ refsL b
  | .iface _ v=>refs v
  | .agg cs=>refsL cs
  | .tuple vs=>refsL vs
  | _=>[]
def refsL:List AV→List Oid
  | []=>[]
  | v :: r=>refs v ++ refsL r
end
mutual
def toks:AV→List Oid
  | .slice (.buf b) _ _=>[b]
  | .fn _ a b=>toksL a ++ toksL b
  | .iface _ v=>toks v
  | .agg cs=>toksL cs
  | .tuple vs=>toksL vs
  | _=>[]
def toksL:List AV→List Oid
  | []=>[]
  | v :: r=>toks v ++ toksL r
end
mutual
def clean:AV→AV
  | .slice (.buf _) s es=>.slice .none s es
  | .fn f a b=>.fn f (cleanL a) (cleanL b)
  | .iface t v=>.iface t (clean v)
  | .agg cs=>.agg (cleanL cs)
  | .tuple vs=>.tuple (cleanL vs)
  | v=>v
def cleanL:List AV→List AV
  | []=>[]
  | v :: r=>clean v :: cleanL r
end
mutual
def strip (p:Oid→Bool):AV→AV
  | .ptr b off=>if p b then .undef else .ptr b off
  | .mref b s o l c=>if p b then .undef else .mref b s o l c
  | .mapr b=>if p b then .undef else .mapr b
  | .slice (.buf b) s es=>if p b then .slice .none s es else .slice (.buf b) s es
  | .fn f a b=>.fn f (stripL p a) (stripL p b)
  | .iface t v=>.iface t (strip p v)
  | .agg cs=>.agg (stripL p cs)
  | .tuple vs=>.tuple (stripL p vs)
  | v=>v
def stripL (p:Oid→Bool):List AV→List AV
  | []=>[]
  | v :: r=>strip p v :: stripL p r
end
mutual
def ren (σ:Oid→Option Oid):AV→Option AV
  | .ptr b off=>match σ b with | some b'=>some (.ptr b' off) | none=>none
  | .mref b s o l c=>match σ b with | some b'=>some (.mref b' s o l c) | none=>none
  | .mapr b=>match σ b with | some b'=>some (.mapr b') | none=>none
  | .slice (.buf b) s es=>match σ b with | some b'=>some (.slice (.buf b') s es) | none=>some (.slice .none s es)
  | .fn f a b=>match renL σ a,renL σ b with | some a',some b'=>some (.fn f a' b') | _,_=>none
  | .iface t v=>match ren σ v with | some v'=>some (.iface t v') | none=>none
  | .agg cs=>match renL σ cs with | some cs'=>some (.agg cs') | none=>none
  | .tuple vs=>match renL σ vs with | some vs'=>some (.tuple vs') | none=>none
  | v=>some v
def renL (σ:Oid→Option Oid):List AV→Option (List AV)
  | []=>some []
  | v :: r=>match ren σ v,renL σ r with | some v',some r'=>some (v' :: r') | _,_=>none
end
def Ob.refs:Ob→List Oid
  | .cells _ cs=>refsL cs
  | .buf _ _=>[]
def Ob.strip (p:Oid→Bool):Ob→Ob
  | .cells w cs=>.cells w (stripL p cs)
  | .buf s n=>.buf s n
def Ob.toks:Ob→List Oid
  | .cells _ cs=>toksL cs
  | .buf _ _=>[]
inductive TD where
  | bool
  | int (k:IntKind)
  | string
  | ptr (e:TypeId)
  | slice (e:TypeId)
  | array (n:Nat) (e:TypeId)
  | struct (fs:List (Nat × TypeId))
  | map (k e:TypeId)
  | iface (n:Nat)
  | fn
  | other
  deriving DecidableEq
structure TI where
  size:Nat
  agg:Bool
  bytes:Nat
  zero:List AV
  desc:TD
  eqOk:Bool
def ofCell:Value→AV
  | .bool b=>.bool b
  | .int k n=>.int k n
  | .string s=>.str s.data.toList
  | .pointer none=>.nilp
  | .slice none 0 0=>.nils
  | .map none=>.nilm
  | .nilFunc=>.nilf
  | .func (.func f) ⟨[]⟩ ⟨[]⟩=>.fn (.func f) [] []
  | .nilIface=>.nili
  | _=>.undef
def ofVal:Value→AV
  | .agg cs=>.agg (cs.toList.map ofCell)
  | v=>ofCell v
def ofDesc:TypeDesc→TD
  | .bool=>.bool
  | .int k=>.int k
  | .string=>.string
  | .pointer e=>.ptr e
  | .slice e=>.slice e
  | .array n e=>.array n e
  | .struct fs=>.struct (fs.toList.map fun f=>(f.offset,f.type))
  | .map k e=>.map k e
  | .interface ms=>.iface ms.size
  | .func _ _ _=>.fn
  | _=>.other
def aggD:TypeDesc→Bool
  | .struct _ | .array _ _=>true
  | _=>false
def zeroCellsOf:Option Value→List AV
  | some z=>z.cells.toList.map ofCell
  | none=>[]
def eqOkD (P:Program) (t:TypeId):TypeDesc→Bool
  | .struct fs=>fs.toList.all (fun f=>!(f.name == "_")) && !P.stoodInHeld t && !P.eqGuardType P.depth t
  | _=>false
def zeroOk (d:TypeDesc):Option Value→Bool
  | some (.agg _)=>aggD d
  | some _=>!aggD d
  | none=>true
def mkTI (P:Program) (t:TypeId):Option TI :=
  match P.info? t,P.underlying t with
  | some i,some d=>if !zeroOk d i.zero then none else some { size:=i.size,agg:=aggD d,bytes:=i.bytes,zero:=zeroCellsOf i.zero,desc:=ofDesc d,eqOk:=eqOkD P t d }
  | _,_=>none
structure Cfg where
  /-- calls of this function only read what comes in -/
  ro:FuncId→Bool
  /-- an assignment of nil to this slot of the function begins a slice that grows there -/
  acc:FuncId→Nat→Bool
  /-- likewise a cell of the object that this slot makes: the cell, the elements' size -/
  accCells:FuncId→Nat→List (Nat × Nat)
  /-- behind this region: the slots that are wanted yet, and the objects that are wanted no more -/
  kill:FuncId→Nat→Option (List Nat × List Nat)
  /-- the call that fills this slot hands over what the callee has grown -/
  adopt:FuncId→Nat→Bool
  /-- of what this append makes the spare is not wanted -/
  plainAp:FuncId→Nat→Bool
  /-- calls hand over what they know of spares -/
  keep:Bool:=false
structure OpR where
  v:AV
  ws:List (Oid × Ob):=[]
  rd:List Oid:=[]
  fresh:Bool:=false
def cellsOf:AV→List AV
  | .agg cs=>cs
  | v=>[v]
def noUndef:AV→Bool
  | .undef=>false
  | _=>true
def cellOk:AV→Bool
  | .undef=>false
  | .agg _=>false
  | .tuple _=>false
  | _=>true
def stillL (vs:List AV):Bool:=(refsL vs).isEmpty && (toksL vs).isEmpty && vs.all cellOk
def setRange (cs:List AV) (off:Nat):List AV→List AV
  | []=>cs
  | v :: vs=>setRange (cs.set off v) (off + 1) vs
def fillL (place:Nat→Option (Nat × Nat)) (cells:List AV):List (Nat × AV)→Option (List AV)
  | []=>some cells
  | (i,v) :: rest=>
    match place i with
    | none=>none
    | some (off,size)=>
      if (cellsOf v).length ≠ size ∨ off + (cellsOf v).length > cells.length ∨ noUndef v = false then none
      else fillL place (setRange cells off (cellsOf v)) rest
def takeCells (ti:TI) (cs:List AV) (off:Nat):Option AV :=
  if ti.agg then (if off + ti.size ≤ cs.length then some (.agg ((cs.drop off).take ti.size)) else none)
  else cs[off]?
def chunk (agg:Bool) (s:Nat):Nat→List AV→List AV
  | 0,_=>[]
  | n + 1,cs=>(if agg then .agg (cs.take s) else cs.headD .undef) :: chunk agg s n (cs.drop s)
variable (tb:List TI)
def descOf (t:TypeId):Option TD:=match tb[t]? with | some ti=>some ti.desc | none=>none
def tsize (t:TypeId):Option Nat:=match tb[t]? with | some ti=>some ti.size | none=>none
def fieldsOf (t:TypeId):Option (List (Nat × TypeId)) :=
  match descOf tb t with
  | some (.struct fs)=>some fs
  | _=>none
def evEqF (eq:TypeId→AV→AV→Option Bool) (xs ys:List AV):List (Nat × TypeId)→Option Bool
  | []=>some true
  | (o,t) :: r=>
    match tb[t]? with
    | none=>none
    | some ti=>
      if ti.agg then none else
      match xs[o]?,ys[o]? with
      | some a,some b=>match eq t a b,evEqF eq xs ys r with
        | some e,some e'=>some (e && e')
        | _,_=>none
      | _,_=>none
def eqOkT (t:TypeId):Bool:=match tb[t]? with | some ti=>ti.eqOk | none=>false
def evEq:Nat→TypeId→AV→AV→Option Bool
  | 0,_,_,_=>none
  | d + 1,t,x,y=>
    match descOf tb t,x,y with
    | some .bool,.bool a,.bool b=>some (a == b)
    | some (.int _),.int k a,.int k' b=>if k = k' then some (a == b) else none
    | some .string,.str a,.str b=>some (a == b)
    | some (.ptr _),.nilp,.nilp=>some true
    | some (.ptr _),.nilp,.ptr _ _=>some false
    | some (.ptr _),.nilp,.pin _=>some false
    | some (.ptr _),.ptr _ _,.nilp=>some false
    | some (.ptr _),.pin _,.nilp=>some false
    | some (.slice _),.nils,.nils=>some true
    | some (.slice _),.slice _ _ (_ :: _),.nils=>some false
    | some (.slice _),.nils,.slice _ _ (_ :: _)=>some false
    | some (.slice _),.mref _ _ _ _ _,.nils=>some false
    | some (.map _ _),.nilm,.nilm=>some true
    | some (.map _ _),.mapr _,.nilm=>some false
    | some (.map _ _),.nilm,.mapr _=>some false
    | some .fn,.nilf,.nilf=>some true
    | some .fn,.fn _ _ _,.nilf=>some false
    | some .fn,.nilf,.fn _ _ _=>some false
    | some (.struct fs),.agg xs,.agg ys=>if eqOkT tb t then evEqF tb (evEq d) xs ys fs else none
    | _,_,_=>none
def intBits (op:BinOp) (k:IntKind) (x y:Int):Option AV :=
  match op with
  | .and=>some (.int k (k.wrap ((BitVec.ofInt k.bits x) &&& (BitVec.ofInt k.bits y)).toNat))
  | .or=>some (.int k (k.wrap ((BitVec.ofInt k.bits x) ||| (BitVec.ofInt k.bits y)).toNat))
  | .xor=>some (.int k (k.wrap ((BitVec.ofInt k.bits x) ^^^ (BitVec.ofInt k.bits y)).toNat))
  | .andNot=>some (.int k (k.wrap ((BitVec.ofInt k.bits x) &&& ~~~(BitVec.ofInt k.bits y)).toNat))
  | _=>none
def intOp (op:BinOp) (k:IntKind) (a b:Int):Option AV :=
  match op with
  | .add=>some (.int k (k.wrap (a + b)))
  | .sub=>some (.int k (k.wrap (a - b)))
  | .mul=>some (.int k (k.wrap (a * b)))
  | .quo=>if b = 0 then none else some (.int k (k.wrap (a.tdiv b)))
  | .rem=>if b = 0 then none else some (.int k (a.tmod b))
  | .and=>intBits .and k a b
  | .or=>intBits .or k a b
  | .xor=>intBits .xor k a b
  | .andNot=>intBits .andNot k a b
  | .eql=>some (.bool (a == b))
  | .neq=>some (.bool (a != b))
  | .lss=>some (.bool (decide (a < b)))
  | .leq=>some (.bool (decide (a ≤ b)))
  | .gtr=>some (.bool (decide (a > b)))
  | .geq=>some (.bool (decide (a ≥ b)))
  | .shl=>if b < 0 then none else some (.int k (k.wrap (a * 2 ^ (min b.toNat k.bits))))
  | .shr=>if b < 0 then none else some (.int k (a.fdiv (2 ^ (min b.toNat k.bits))))
def strOp (op:BinOp) (x y:List UInt8):Option AV :=
  match op with
  | .add=>if x.length + y.length ≤ 9223372036854775807 then some (.str (x ++ y)) else none
  | .eql=>some (.bool (x == y))
  | .neq=>some (.bool (!(x == y)))
  | .lss=>some (.bool (Op.bytesLess x y))
  | .leq=>some (.bool (Op.bytesLess x y || x == y))
  | .gtr=>some (.bool !(Op.bytesLess x y || x == y))
  | .geq=>some (.bool !(Op.bytesLess x y))
  | _=>none
def evBin (op:BinOp) (t:TypeId) (x y:AV):Option AV :=
  match x,y with
  | .int k a,.int k' b=>
    if op = .shl ∨ op = .shr then intOp op k a b
    else if k = k' then intOp op k a b else none
  | .str a,.str b=>strOp op a b
  | x,y=>
    match op with
    | .eql=>(evEq tb 100 t x y).map .bool
    | .neq=>(evEq tb 100 t x y).map fun b=>.bool (!b)
    | _=>none
def evUn (op:UnOp) (x:AV):Option AV :=
  match op,x with
  | .neg,.int k n=>some (.int k (k.wrap (0 - n)))
  | .xor,.int k n=>intBits .xor k (if k.signed then -1 else k.max) n
  | .not,.bool b=>some (.bool !b)
  | _,_=>none
def ofBytes (s:List UInt8):List AV:=s.map fun b=>.int .u8 b.toNat
def evConv (src dst:TypeId) (x:AV):Option AV :=
  match descOf tb src,descOf tb dst,x with
  | some _,some (.int k),.int _ n=>some (.int k (k.wrap n))
  | some _,some .string,.str s=>some (.str s)
  | some _,some .string,.int _ n=>some (.str (Utf8.encode n).data.toList)
  | _,_,_=>none
def evBytes (src dst:TypeId) (x:AV):Option (TypeId × List UInt8) :=
  match descOf tb src,descOf tb dst,x with
  | some .string,some (.slice e),.str l=>match descOf tb e with
    | some (.int .u8)=>some (e,l)
    | _=>none
  | _,_,_=>none
def evConv2 (src dst:TypeId) (x:AV):Option AV :=
  match evBytes tb src dst x with
  | some p=>some (.slice .none 1 (p.2.map fun b=>.int .u8 b.toNat))
  | none=>evConv tb src dst x
def bnd (x:AV) (top:Nat):Option Nat :=
  match x with
  | .int _ i=>if 0 ≤ i∧i ≤ top then some i.toNat else none
  | _=>none
def bndO (x:Option AV) (dflt top:Nat):Option Nat :=
  match x with
  | some v=>bnd v top
  | none=>some dflt
def evSlice (t:TypeId) (x:AV) (lo hi mx:Option AV):Option AV :=
  match descOf tb t,x with
  | some .string,.str s=>
    match mx with
    | some _=>none
    | none=>
    match bndO hi s.length s.length with
    | some h=>match bndO lo 0 h with
      | some l=>some (.str ((s.take h).drop l))
      | none=>none
    | none=>none
  | some (.slice e),.slice tok sz es=>
    if tsize tb e ≠ some sz then none else
    match mx with
    | none=>
      match bndO hi es.length es.length with
      | some h=>match bndO lo 0 h with
        | some l=>some (.slice (if h = es.length∧(l = 0 ∨ tok = .full) then tok else .none) sz ((es.take h).drop l))
        | none=>none
      | none=>none
    | some m'=>
      match bnd m' es.length with
      | none=>none
      | some m=>
      match hi with
      | none=>none
      | some h'=>
      match bnd h' m with
      | none=>none
      | some h=>match bndO lo 0 h with
        | some l=>some (.slice (if h = m then .full else .none) sz ((es.take h).drop l))
        | none=>none
  | some (.slice e),.nils=>
    match tsize tb e,mx,hi with
    | some _,none,hi=>match bndO hi 0 0,bndO lo 0 0 with
      | some _,some _=>some .nils
      | _,_=>none
    | some _,some m,some h=>match bnd m 0,bnd h 0,bndO lo 0 0 with
      | some _,some _,some _=>some .nils
      | _,_,_=>none
    | _,_,_=>none
  | _,_=>none
def evIndexAddr (t:TypeId) (x i:AV):Option AV :=
  match descOf tb t,x,i with
  | some (.slice e),.slice _ sz es,.int _ n=>
    if tsize tb e ≠ some sz then none else
    if 0 ≤ n then (es[n.toNat]?).map fun v=>.pin (cellsOf v) else none
  | some (.slice e),.mref b sz off len _,.int _ n=>
    if tsize tb e ≠ some sz then none else
    if 0 ≤ n∧n < len then some (.ptr b (off + n.toNat * sz)) else none
  | some (.array len e),.ptr b off,.int _ n=>
    match tsize tb e with
    | some sz=>if 0 ≤ n∧n < len then some (.ptr b (off + n.toNat * sz)) else none
    | none=>none
  | some (.array len e),.pin cs,.int _ n=>
    match tsize tb e with
    | some sz=>if 0 ≤ n∧n < len then some (.pin (cs.drop (n.toNat * sz))) else none
    | none=>none
  | _,_,_=>none
def evIndex (t:TypeId) (x i:AV):Option AV :=
  match descOf tb t,x,i with
  | some (.array len e),.agg cs,.int _ n=>
    match tb[e]? with
    | some ti=>if 0 ≤ n∧n < len then takeCells ti cs (n.toNat * ti.size) else none
    | none=>none
  | some .string,.str s,.int _ n=>if 0 ≤ n then (s[n.toNat]?).map fun b=>.int .u8 b.toNat else none
  | _,_,_=>none
def evFieldAddr (s:TypeId) (x:AV) (f:Nat):Option AV :=
  match fieldsOf tb s with
  | none=>none
  | some fs=>match fs[f]? with
    | none=>none
    | some (off,ft)=>match tsize tb ft with
      | none=>none
      | some sz=>
        if sz = 0 then none else
        match x with
        | .ptr b o=>some (.ptr b (o + off))
        | .pin cs=>some (.pin (cs.drop off))
        | _=>none
def evField (s:TypeId) (x:AV) (f:Nat):Option AV :=
  match fieldsOf tb s,x with
  | some fs,.agg cs=>match fs[f]? with
    | some (off,ft)=>match tb[ft]? with
      | some ti=>takeCells ti cs off
      | none=>none
    | none=>none
  | _,_=>none
def evBuild (t:TypeId) (parts:List (Nat × AV)):Option AV :=
  match tb[t]? with
  | none=>none
  | some ti=>
    if ti.zero.isEmpty then none else
    match ti.desc with
    | .struct fs=>if fs.any fun f=>(tsize tb f.2).isNone then none else (fillL (fun i=>(fs[i]?).bind fun f=>(tsize tb f.2).map fun s=>(f.1,s)) ti.zero parts).map .agg
    | .array _ e=>match tsize tb e with
      | some s=>(fillL (fun i=>some (i * s,s)) ti.zero parts).map .agg
      | none=>none
    | _=>none
def evBuildSlice (t:TypeId) (len:Nat) (parts:List (Nat × AV)):Option AV :=
  match descOf tb t with
  | some (.slice e)=>match tb[e]? with
    | some te=>
      if len * te.size > 16777216 ∨ te.zero.length ≠ te.size ∨ te.size = 0 ∨ (te.agg = false∧te.size ≠ 1) then none else
      match fillL (fun i=>some (i * te.size,te.size)) (List.replicate len te.zero).flatten parts with
      | some cells=>if stillL (cleanL cells) then some (.slice .full te.size (chunk te.agg te.size len (cleanL cells))) else none
      | none=>none
    | none=>none
  | _=>none
def srcOf:AV→Option (List AV)
  | .slice _ _ es=>some es
  | .nils=>some []
  | .str s=>some (ofBytes s)
  | _=>none
def srcOk (sz:Nat):AV→Bool
  | .slice _ s _=>s == sz
  | .nils=>true
  | .str _=>sz == 1
  | _=>false
def srcTy:TD→Bool
  | .slice _=>true
  | .string=>true
  | _=>false
def roomy (bytes need:Nat):Bool:=decide (0 < bytes∧(2 * need + 1024) * bytes ≤ 140737488355328)
def evAppend (pl:Bool) (dst:Nat) (H:Heap) (t:TypeId) (u:TypeId) (s x:AV):Option OpR :=
  match descOf tb t,descOf tb u,srcOf x with
  | some (.slice e),some du,some ys=>
    match tb[e]? with
    | none=>none
    | some te=>
      if !srcTy du || te.zero.isEmpty || te.zero.length != te.size || !srcOk te.size x then none else
      match s with
      | .nils=>if pl then (if roomy te.bytes ys.length then some { v:=.slice .none te.size ys } else none) else if ys.isEmpty then some { v:=.nils } else
        if roomy te.bytes ys.length then
          some { v:=.slice (.buf (.loc dst)) te.size ys,ws:=[(.loc dst,.buf te.size ys.length)],fresh:=true } else none
      | .slice .full sz es=>
        if sz ≠ te.size then none else
        if pl then (if roomy te.bytes (es.length + ys.length) then some { v:=.slice .none sz (es ++ ys) } else none) else if ys.isEmpty then some { v:=.slice .full sz es } else
        if roomy te.bytes (es.length + ys.length) then
          some { v:=.slice (.buf (.loc dst)) sz (es ++ ys),ws:=[(.loc dst,.buf sz (es.length + ys.length))],fresh:=true } else none
      | .slice (.buf b) sz es=>
        if sz ≠ te.size then none else
        match find H b with
        | some (.buf sz' n)=>
          if sz' = sz∧n = es.length∧roomy te.bytes (es.length + ys.length) then
            some { v:=.slice (.buf b) sz (es ++ ys),ws:=[(b,.buf sz (es.length + ys.length))],rd:=[b] } else none
        | _=>none
      | _=>none
  | _,_,_=>none
def evLoad (H:Heap) (t:TypeId) (a:AV):Option OpR :=
  match tb[t]?,a with
  | some ti,.pin cs=>(takeCells ti cs 0).map fun v=>{ v }
  | some ti,.ptr b off=>match find H b with
    | some (.cells f cs)=>if f.row then (takeCells ti cs off).map fun v=>{ v,rd:=[b] } else none
    | _=>none
  | _,_=>none
def keepTok (o:Oid) (j:Nat):AV→AV
  | .slice (.buf b) s es=>if b = .cl o j then .slice (.buf b) s es else .slice .none s es
  | v=>clean v
def keepToks (o:Oid) (j:Nat):List AV→List AV
  | []=>[]
  | v :: r=>keepTok o j v :: keepToks o (j + 1) r
def keptToks (kt:Bool) (o:Oid) (j:Nat) (l:List AV):List AV:=if kt then l else keepToks o j l
def evStore (kt:Bool) (H:Heap) (t:TypeId) (a v:AV):Option OpR :=
  match tb[t]?,a with
  | some ti,.ptr b off=>match find H b with
    | some (.cells .rw cs)=>
      if (cellsOf v).length = ti.size∧off + (cellsOf v).length ≤ cs.length∧b.root = b∧(cellsOf v).all cellOk = true then
        some { v:=.tuple [],ws:=[(b,.cells .rw (setRange cs off (keptToks kt b off (cellsOf v))))],rd:=[b] }
      else none
    | _=>none
  | _,_=>none
def esOf (kd:IntKind) (n:Nat):List Int→List AV→List (AV × AV)
  | [],_=>[]
  | k :: ks,cs=>(.int kd k,.agg (cs.take n)) :: esOf kd n ks (cs.drop n)
def entsOf:Fl→List AV→Option (List (AV × AV))
  | .mw,[.mapf ks vs]=>if ks.length = vs.length then some (ks.zip vs) else none
  | .mk kd ks n,cs=>if cs.length = ks.length * n then some (esOf kd n ks cs) else none
  | _,_=>none
def sameK:AV→AV→Option Bool
  | .int k a,.int k' b=>if k = k' then some (a == b) else none
  | .str a,.str b=>some (a == b)
  | _,_=>none
def findE (key:AV):List (AV × AV)→Nat→Option (Option (Nat × AV))
  | [],_=>some none
  | (a,v) :: r,i=>match sameK a key with
    | some true=>some (some (i,v))
    | some false=>findE key r (i + 1)
    | none=>none
def keyOk (d:TD) (key:AV):Bool :=
  match d,key with
  | .int k,.int k' _=>k == k'
  | .string,.str _=>true
  | _,_=>false
def evEnts (H:Heap):AV→Option (List (AV × AV) × List Oid)
  | .nilm=>some ([],[])
  | .mapf ks vs=>some (ks.zip vs,[])
  | .mapr b=>match find H b with
    | some (.cells f cs)=>(entsOf f cs).map fun es=>(es,[b])
    | _=>none
  | _=>none
def zeroOf (t:TypeId):Option AV :=
  match tb[t]? with
  | some ti=>if ti.zero.isEmpty then none else if ti.agg then some (.agg ti.zero) else (match ti.zero with | [z]=>some z | _=>none)
  | none=>none
def evLookup (H:Heap) (t:TypeId) (m key:AV) (ok:Bool):Option OpR :=
  match descOf tb t,evEnts H m with
  | some (.map kt et),some (es,rd)=>match descOf tb kt,zeroOf tb et with
    | some d,some z=>if keyOk d key then (match findE key es 0 with
      | some (some (_,v))=>if noUndef z && es.all (fun e=>keyOk d e.1) then some { v:=if ok then .tuple [v,.bool true] else v,rd } else none
      | some none=>if noUndef z && es.all (fun e=>keyOk d e.1) then some { v:=if ok then .tuple [z,.bool false] else z,rd } else none
      | none=>none) else none
    | _,_=>none
  | _,_=>none
def setMk (kd:IntKind) (ks:List Int) (n:Nat) (cs:List AV) (k:Int) (us:List AV):Option Nat→Fl × List AV
  | some j=>(.mk kd ks n,setRange cs (j * n) us)
  | none=>(.mk kd (ks ++ [k]) n,cs ++ us)
def evSet (f:Fl) (cs:List AV) (key v:AV) (at_:Option Nat):Option (Fl × List AV) :=
  match f,cs with
  | .mw,[.mapf ks vs]=>match at_ with
    | some j=>some (.mw,[.mapf ks (vs.set j (clean v))])
    | none=>some (.mw,[.mapf (ks ++ [key]) (vs ++ [clean v])])
  | .mk kd ks n,cs=>match key,v with
    | .int kd' k,.agg us=>if kd' = kd∧us.length = n then some (setMk kd ks n cs k us at_) else none
    | _,_=>none
  | _,_=>none
def evMapSet (H:Heap) (t:TypeId) (m key x:AV):Option OpR :=
  match descOf tb t,m with
  | some (.map kt et),.mapr b=>match descOf tb kt,find H b with
    | some d,some (.cells f cs)=>match entsOf f cs with
      | some es=>match findE key es 0 with
        | some q=>match evSet f cs key x (q.map (·.1)) with
          | some p=>if keyOk d key && es.all (fun e=>keyOk d e.1) && (p.1 != .mw || (refs x).isEmpty) && b.root == b then
              some { v:=.tuple [],ws:=[(b,.cells p.1 p.2)],rd:=[b] } else none
          | none=>none
        | none=>none
      | none=>none
    | _,_=>none
  | _,_=>none
def growCells (o:Oid) (l:List (Nat × Nat)) (cs:List AV):List AV × List (Oid × Ob) :=
  l.foldl (fun (r:List AV × List (Oid × Ob)) (js:Nat × Nat)=>
    match r.1[js.1]? with
    | some .nils=>(r.1.set js.1 (.slice (.buf (.cl o js.1)) js.2 []),r.2 ++ [(.cl o js.1,.buf js.2 0)])
    | _=>r) (cs,[])
def boxToks (kt:Bool) (cs:List AV):List AV:=if kt then cs else cleanL cs
def evBox (kt:Bool) (acc:List (Nat × Nat)) (dst:Nat) (cs:List AV):Option OpR :=
  let r:=growCells (.loc dst) acc (boxToks kt cs)
  if (refsL cs ++ toksL (boxToks kt cs)).any (fun o=>o.root = .loc dst) then none
  else some { v:=.ptr (.loc dst) 0,ws:=(.loc dst,.cells .rw r.1) :: r.2,fresh:=true }
def mm2 (isMax:Bool):AV→AV→Option AV
  | .int k a,.int k' b=>if k = k' then some (.int k (if (if isMax then b > a else b < a) then b else a)) else none
  | _,_=>none
def minMaxFrom (isMax:Bool) (x:AV):List AV→Option AV
  | []=>some x
  | y :: r=>match mm2 isMax x y with
    | some z=>minMaxFrom isMax z r
    | none=>none
def minMax (isMax:Bool):List AV→Option AV
  | []=>none
  | x :: r=>minMaxFrom isMax x r
def reach (H:Heap):Nat→List Oid→List Oid→Option (List Oid)
  | 0,_,_=>none
  | _ + 1,[],seen=>some seen
  | n + 1,o :: todo,seen=>
    if seen.contains o then reach H n todo seen else
    match find H o with
    | some ob=>reach H n (todo ++ ob.refs) (seen ++ [o])
    | none=>none
def isCl:Oid→Bool
  | .cl _ _=>true
  | _=>false
def idx (ids:List Oid) (o:Oid) (i:Nat):Option Nat :=
  match ids with
  | []=>none
  | x :: r=>if x = o then some i else idx r o (i + 1)
def toExt (ids:List Oid):Oid→Option Oid
  | .cl o j=>match toExt ids o with | some o'=>some (.cl o' j) | none=>none
  | o=>(idx ids o 0).map .ext
def ofExt (ids:List Oid):Oid→Option Oid
  | .cl o j=>match ofExt ids o with | some o'=>some (.cl o' j) | none=>none
  | .ext i=>ids[i]?
  | .loc _=>none
def renOb (σ:Oid→Option Oid):Ob→Option Ob
  | .cells w cs=>(renL σ cs).map (.cells w)
  | .buf s n=>some (.buf s n)
def renHeap (σ:Oid→Option Oid):Heap→Option Heap
  | []=>some []
  | (o,ob) :: r=>
    match σ o with
    | none=>renHeap σ r
    | some o'=>match renOb σ ob,renHeap σ r with
      | some ob',some r'=>some ((o',ob') :: r')
      | _,_=>none
def Ob.seen:Ob→Ob
  | .cells f cs=>if f.row then .cells .ro (cleanL cs) else .buf 0 0
  | ob=>ob
def readOnly (H:Heap):Heap:=H.map fun x=>(x.1,x.2.seen)
abbrev CallF:=FuncId→List AV→Heap→Option (AV × Heap)
def rooted (d:Nat) (b:Oid):Bool:=decide (b.root = .loc d)
def adopt (dst:Option Nat) (ids:List Oid) (r:AV) (H2 ws:Heap):Option OpR :=
  match dst,r with
  | some d,.slice (.buf b) s es=>
    match ofExt ids b,find H2 b with
    | none,some (.buf s' n)=>
      if s' = s∧n = es.length∧(ws.all fun w=>!rooted d w.1 && !w.2.refs.any (rooted d) && !w.2.toks.any (rooted d)) = true then
        some { v:=.slice (.buf (.loc d)) s es,ws:=(.loc d,.buf s n) :: ws,rd:=ids,fresh:=true }
      else none
    | _,_=>none
  | _,_=>none
def argRoots (kt:Bool) (args:List AV):List Oid:=if kt then refsL args ++ (toksL args).map Oid.root else refsL args
def argsOf (kt:Bool) (args:List AV):List AV:=if kt then args else cleanL args
def evCall (ro:FuncId→Bool) (kt:Bool) (call:CallF) (dst:Option Nat) (H:Heap) (f:FuncId) (args:List AV):Option OpR :=
  match reach H 64 (argRoots kt args) [] with
  | none=>none
  | some ids=>
    if ids.any isCl then none else
    match renL (toExt ids) args,renHeap (toExt ids) H with
    | some args',some H'=>
      if ro f then
        match call f (cleanL args') (readOnly H') with
        | some (r,_)=>match ren (ofExt ids) r with
          | some r'=>some { v:=clean r',rd:=ids }
          | none=>none
        | none=>none
      else match call f (argsOf kt args') H' with
        | some (r,H'')=>match ren (ofExt ids) r,renHeap (ofExt ids) H'' with
          | some r',some ws=>some ((adopt dst ids r H'' ws).getD { v:=clean r',ws,rd:=ids })
          | _,_=>none
        | none=>none
    | _,_=>none
variable (P:Program) (cfg:Cfg)
def evalA (gl:List (Nat × List AV)) (A:Slots):Operand→AV
  | .tmp t=>getA A t
  | .const v=>ofVal v
  | .global g=>match find gl g with | some cs=>.pin cs | none=>.undef
  | .func f=>.fn (.func f) [] []
def adoptAt (fid:FuncId) (dst:Option Nat):Option Nat :=
  match dst with
  | some d=>if cfg.adopt fid d then some d else none
  | none=>none
def evOp (call:CallF) (fid:FuncId) (ρ:Operand→AV) (H:Heap) (o:Oper):Option OpR :=
  let v (x:Option AV):Option OpR:=x.map fun v=>{ v }
  match o.op with
  | .move x=>some { v:=ρ x }
  | .assign x=>
    match o.dst with
    | some d=>if cfg.acc fid d then
        match ρ x,descOf tb o.type with
        | .nils,some (.slice e)=>match tsize tb e with
          | some s=>some { v:=.slice (.buf (.loc d)) s [],ws:=[(.loc d,.buf s 0)],fresh:=true }
          | none=>none
        | x,_=>some { v:=x }
      else some { v:=ρ x }
    | none=>none
  | .pick c a b=>match ρ c with | .bool t=>some { v:=if t then ρ a else ρ b } | _=>none
  | .alloc e=>match tb[e]?,o.dst with
    | some ti,some d=>if ti.zero.isEmpty then none else evBox cfg.keep (cfg.accCells fid d) d ti.zero
    | _,_=>none
  | .box e x=>match tsize tb e,o.dst with
    | some s,some d=>if (cellsOf (ρ x)).length = s∧noUndef (ρ x) = true then evBox cfg.keep (cfg.accCells fid d) d (cellsOf (ρ x)) else none
    | _,_=>none
  | .build t parts=>v (evBuild tb t (parts.toList.map fun p=>(p.1,ρ p.2)))
  | .buildSlice t len parts=>v (evBuildSlice tb t len (parts.toList.map fun p=>(p.1,ρ p.2)))
  | .load t a=>evLoad tb H t (ρ a)
  | .store t a x=>evStore tb cfg.keep H t (ρ a) (ρ x)
  | .nilCheck x=>match ρ x with
    | .ptr b o=>some { v:=.ptr b o }
    | .pin cs=>some { v:=.pin cs }
    | .fn (.func f) a b=>some { v:=.fn (.func f) a b }
    | _=>none
  | .binOp op t x y _=>v (evBin tb op t (ρ x) (ρ y))
  | .unOp op _ x=>v (evUn op (ρ x))
  | .convert s d x=>v (evConv2 tb s d (ρ x))
  | .makeFunc f a b=>match f with
    | .func _=>some { v:=.fn f (a.toList.map ρ) (b.toList.map ρ) }
    | _=>none
  | .slice t x lo hi mx=>v (evSlice tb t (ρ x) (lo.map ρ) (hi.map ρ) (mx.map ρ))
  | .fieldAddr s x f=>v (evFieldAddr tb s (ρ x) f)
  | .field s x f=>v (evField tb s (ρ x) f)
  | .indexAddr t x i=>v (evIndexAddr tb t (ρ x) (ρ i))
  | .index t x i=>v (evIndex tb t (ρ x) (ρ i))
  | .extract x i=>match ρ x with | .tuple vs=>v (vs[i]?) | _=>none
  | .lookup t m k ok=>evLookup tb H t (ρ m) (ρ k) ok
  | .mapUpdate t m k x=>evMapSet tb H t (ρ m) (ρ k) (ρ x)
  | .call c=>
    match c.callee with
    | .value g=>match ρ g with
      | .fn (.func f) first captured=>evCall cfg.ro cfg.keep call (adoptAt cfg fid o.dst) H f (first ++ c.args.toList.map ρ ++ captured)
      | _=>none
    | .builtin .len=>match c.argTypes.toList,c.args.toList.map ρ with
      | t :: _,x :: _=>match descOf tb t,x with
        | some .string,.str s=>some { v:=.int .i64 s.length }
        | some (.array n _),_=>some { v:=.int .i64 n }
        | some (.slice _),.slice _ _ es=>some { v:=.int .i64 es.length }
        | some (.slice _),.nils=>some { v:=.int .i64 0 }
        | some (.slice _),.mref _ _ _ len _=>some { v:=.int .i64 len }
        | _,_=>none
      | _,_=>none
    | .builtin .append=>match o.dst,c.argTypes.toList,c.args.toList.map ρ with
      | some d,t :: u :: _,s :: x :: _=>evAppend tb (cfg.plainAp fid d) d H t u s x
      | _,_,_=>none
    | .builtin .min=>v (minMax false (c.args.toList.map ρ))
    | .builtin .max=>v (minMax true (c.args.toList.map ρ))
    | _=>none
  | _=>none
structure St where
  A:Slots
  H:Heap
def insAll (H:Heap):List (Oid × Ob)→Heap
  | []=>H
  | (o,ob) :: r=>ins o ob (insAll H r)
def purge (d:Nat) (S:St):St :=
  { A:=S.A.map fun x=>(x.1,strip (rooted d) x.2),
    H:=(S.H.filter fun x=>!rooted d x.1).map fun x=>(x.1,x.2.strip (rooted d)) }
def clear (S:St) (d:Nat):Bool :=
  (S.A.all fun x=>x.1 = d || (!(refs x.2).any (rooted d) && !(toks x.2).any (rooted d))) &&
  (S.H.all fun x=>!rooted d x.1 && !x.2.refs.any (rooted d) && !x.2.toks.any (rooted d))
def evWanted (ops:Array Oper) (A:Slots) (o:Oper):Option Bool :=
  match o.guard with
  | none=>some true
  | some (j,want)=>match ops[j]? with
    | some oj=>match oj.dst with
      | some t=>match getA A t with
        | .bool b=>some (b == want)
        | .tuple []=>some false
        | _=>none
      | none=>none
    | none=>none
def setDst (n:Nat) (dst:Option Nat) (v:AV) (A:Slots):Option Slots :=
  match dst with
  | some d=>if d < n then some (put d v A) else none
  | none=>some A
def isCallV:Op→Bool
  | .call c=>match c.callee with | .value _=>true | _=>false
  | _=>false
def evStep (gl:List (Nat × List AV)) (call:CallF) (fid:FuncId) (n:Nat) (ops:Array Oper) (S:St) (o:Oper):Option (St × OpR) :=
  match evWanted ops S.A o with
  | none=>none
  | some false=>(setDst n o.dst (.tuple []) S.A).map fun A=>(⟨A,S.H⟩,{ v:=.tuple [] })
  | some true=>
    match evOp tb cfg call fid (evalA gl S.A) S.H o with
    | none=>none
    | some r=>
      let S1:=if r.fresh then (match o.dst with | some d=>if clear S d then S else purge d S | none=>S) else S
      if r.fresh && isCallV o.op && !(match o.dst with | some d=>clear S d | none=>true) then none else
      (setDst n o.dst r.v S1.A).map fun A=>(⟨A,insAll S1.H r.ws⟩,r)
def evOps (gl:List (Nat × List AV)) (call:CallF) (fid:FuncId) (n:Nat) (ops:Array Oper):List Oper→St→Option St
  | [],S=>some S
  | o :: r,S=>match evStep tb cfg gl call fid n ops S o with
    | some (S',_)=>evOps gl call fid n ops r S'
    | none=>none
def evStep0 (gl:List (Nat × List AV)) (call:CallF) (fid:FuncId) (ops:Array Oper) (S:St) (o:Oper):Option OpR :=
  match evWanted ops S.A o with
  | none=>none
  | some false=>some { v:=.tuple [] }
  | some true=>evOp tb cfg call fid (evalA gl S.A) S.H o
def putO (n:Nat) (o:Oper) (r:OpR) (S:St):Option St :=
  match setDst n o.dst r.v S.A with
  | some A=>some ⟨A,insAll S.H r.ws⟩
  | none=>none
def evTrace (gl:List (Nat × List AV)) (call:CallF) (fid:FuncId) (n:Nat) (ops:Array Oper):List Oper→St→Option (St × List OpR)
  | [],S=>some (S,[])
  | o :: r,S=>match evStep0 tb cfg gl call fid ops S o with
    | some x=>match putO n o x S with
      | some S'=>match evTrace gl call fid n ops r S' with
        | some (S'',xs)=>some (S'',x :: xs)
        | none=>none
      | none=>none
    | none=>none
def befores:List Oper→List (List Nat)→List (List Nat)
  | [],acc=>acc
  | o :: r,acc=>befores r (acc ++ [(o.after.toList.filter (Region.binds .any)).flatMap fun e=>e.on :: acc.getD e.on []])
def namesOf (ops:Array Oper) (o:Oper):List Tmp :=
  (o.op.operands.toList.filterMap fun | .tmp t=>some t | _=>none) ++
  (match o.guard with | some (j,_)=>((ops[j]?).bind (·.dst)).toList | none=>[])
def apartB (ops:Array Oper) (x y:Oper):Bool :=
  match x.dst,y.dst with
  | some d,some e=>!(namesOf ops y).contains d && !(namesOf ops x).contains e && d != e
  | some d,none=>!(namesOf ops y).contains d
  | none,some e=>!(namesOf ops x).contains e
  | none,none=>true
def offRoots (ws:List (Oid × Ob)) (bs:List Oid):Bool:=ws.all fun w=>bs.all fun u=>u.root != w.1.root
def apartR (x y:OpR):Bool:=offRoots x.ws y.rd && offRoots x.ws (y.ws.map (·.1)) && offRoots y.ws x.rd
def offFresh (x:Oper) (p q:OpR):Bool :=
  !p.fresh || match x.dst with
    | some d=>!(refs q.v).any (rooted d) && !(toks q.v).any (rooted d) && q.ws.all fun w=>!rooted d w.1 && !w.2.refs.any (rooted d) && !w.2.toks.any (rooted d)
    | none=>false
def pairOk (ops:Array Oper) (bs:List (List Nat)) (rs:List OpR) (i j:Nat):Bool :=
  match ops[i]?,ops[j]?,rs[i]?,rs[j]? with
  | some x,some y,some p,some q=>offFresh y q p && ((bs.getD j []).contains i || (apartB ops x y && apartR p q && offFresh x p q))
  | _,_,_,_=>false
def freshOk (S:St) (ops:Array Oper) (rs:List OpR) (i:Nat):Bool :=
  match ops[i]?,rs[i]? with
  | some x,some p=>!p.fresh || match x.dst with | some d=>clear S d | none=>false
  | _,_=>false
def edgesOk (ops:Array Oper) (i:Nat):Bool :=
  match ops[i]? with
  | some x=>x.after.toList.all fun e=>!Region.binds .any e || decide (e.on < i)
  | none=>false
def orderOk (S:St) (ops:Array Oper) (rs:List OpR):Bool :=
  let bs:=befores ops.toList []
  (List.range ops.size).all fun j=>edgesOk ops j && freshOk S ops rs j && (List.range j).all fun i=>pairOk ops bs rs i j
def evDraw (gl:List (Nat × List AV)) (call:CallF) (fid:FuncId) (n:Nat) (ops:Array Oper) (S:St):Option St :=
  match evTrace tb cfg gl call fid n ops ops.toList S with
  | none=>none
  | some (S',rs)=>if orderOk S ops rs then some S' else none
def killed (ds:List Nat) (b:Oid):Bool :=
  match b.root with
  | .loc d=>ds.contains d
  | _=>false
def killAll (ts ds:List Nat) (S:St):St :=
  { A:=S.A.filter fun x=>ts.contains x.1,
    H:=S.H.filter fun x=>!killed ds x.1 }
def killO (p:Option (List Nat × List Nat)) (S:St):St :=
  match p with
  | none=>S
  | some (ts,ds)=>killAll ts ds S
inductive Ex where
  | normal
  | exit (id:Nat)
  | ret
  deriving DecidableEq
def loopN (body:St→Option (Ex × St)):Nat→St→Option (Ex × St)
  | 0,_=>none
  | k + 1,S=>match body S with
    | some (.normal,S')=>loopN body k S'
    | r=>r
def evCode (gl:List (Nat × List AV)) (call:CallF) (fid:FuncId) (n:Nat) (k:Nat):Code→St→Option (Ex × St)
  | .skip,S=>some (.normal,S)
  | .region id ops draw,S=>
    match (if draw then evDraw tb cfg gl call fid n ops S else evOps tb cfg gl call fid n ops ops.toList S) with
    | some S'=>some (.normal,killO (cfg.kill fid id) S')
    | none=>none
  | .seq a b,S=>match evCode gl call fid n k a S with
    | some (.normal,S')=>evCode gl call fid n k b S'
    | r=>r
  | .cond c a b,S=>match evalA gl S.A c with
    | .bool true=>evCode gl call fid n k a S
    | .bool false=>evCode gl call fid n k b S
    | _=>none
  | .block id b,S=>match evCode gl call fid n k b S with
    | some (.exit id',S')=>if id' = id then some (.normal,S') else some (.exit id',S')
    | r=>r
  | .loop b,S=>loopN (evCode gl call fid n k b) k S
  | .exit id,S=>some (.exit id,S)
  | .ret,S=>some (.ret,S)
  | _,_=>none
def evResult (S:St):ResultVar→Option AV
  | .tmp t=>some (getA S.A t)
  | .cell a t=>(evLoad tb S.H t (getA S.A a)).map (·.v)
def evResults (S:St):List ResultVar→Option (List AV)
  | []=>some []
  | x :: r=>match evResult tb S x,evResults S r with
    | some v,some vs=>some (v :: vs)
    | _,_=>none
def oneOr:List AV→AV
  | [v]=>v
  | vs=>.tuple vs
def argSlots:Nat→List AV→Slots
  | _,[]=>[]
  | i,v :: r=>(i,v) :: argSlots (i + 1) r
def evBody (gl:List (Nat × List AV)) (k:Nat) (call:CallF) (f:FuncId) (fn:Func) (args:List AV) (H:Heap):Option (AV × Heap) :=
  match fn.body with
  | none=>none
  | some c=>
    if args.length ≤ fn.ntmps∧fn.name ≠ "runtime.NumGoroutine" then
      match evCode tb cfg gl call f fn.ntmps k c ⟨argSlots 0 args,H⟩ with
      | some (.exit _,_)=>none
      | some (_,S)=>match evResults tb S fn.results.toList with
        | some vs=>some (oneOr vs,S.H)
        | none=>none
      | none=>none
    else none
def ev (gl:List (Nat × List AV)):Nat→CallF
  | 0=>fun _ _ _=>none
  | k + 1=>fun f args H=>match P.funcs[f]? with
    | some fn=>evBody tb cfg gl k (ev gl k) f fn args H
    | none=>none
end Go.Proofs.YtjojaiomgdjhfaaGreatDoor.AE
set_option linter.unusedSimpArgs false
namespace Go.Proofs.YtjojaiomgdjhfaaGreatDoor.AE
open Go
def nob:AV→Prop:=fun _=>False
structure Gh where
  Γ:Nat→Nat→AV→Prop
  μ:Oid→Option Nat
  tip:Oid→Option (Nat × Nat)
  bufc:Oid→Option (Nat × Nat)
def mapMark (ks vs:List AV):AV:=.tuple [.agg ks,.agg vs]
def Pinned (g:Gh) (c off:Nat) (cs:List AV):Prop:=∀ i a,cs[i]? = some a→g.Γ c (off + i) a∧cellOk a = true
def Bare (tok:Tok) (v:Value):Prop:=v = .slice none 0 0 ∨ ∃ a cap,v = .slice (some a) 0 cap∧(tok = .none ∨ cap = 0)
theorem Bare.none {tok:Tok} {v:Value} (h:Bare tok v):Bare .none v:=by
  rcases h with rfl | ⟨a,cap,rfl,_⟩
  · exact .inl rfl
  · exact .inr ⟨a,cap,rfl,.inl rfl⟩
theorem Bare.slice {tok:Tok} {v:Value} (h:Bare tok v):∃ p cap,v = .slice p 0 cap:=by
  rcases h with rfl | ⟨a,cap,rfl,_⟩
  · exact ⟨_,_,rfl⟩
  · exact ⟨_,_,rfl⟩
def TokOk (g:Gh) (len c off cap:Nat):Tok→Prop
  | .none=>True
  | .full=>cap = len
  | .buf b=>∀ s n,g.tip b = some (s,n)→len ≤ n∧(len = n→(off = 0∧g.bufc b = some (c,cap)) ∨ cap = len)
mutual
def V (g:Gh):AV→Value→Prop
  | .undef,_=>True
  | .bool b,v=>v = .bool b
  | .int k n,v=>v = .int k n
  | .str s,v=>v = .string ⟨s.toArray⟩
  | .nilp,v=>v = .pointer none
  | .ptr b off,v=>∃ c,g.μ b = some c∧v = .pointer (some ⟨c,off,none⟩)
  | .pin cs,v=>∃ c off,v = .pointer (some ⟨c,off,none⟩)∧Pinned g c off cs
  | .nils,v=>v = .slice none 0 0
  | .slice tok s es,v=>(Bare tok v∧es = []) ∨
      ∃ c off cap,v = .slice (some ⟨c,off,none⟩) es.length cap∧es.length ≤ cap∧(∀ e ∈ es,(cellsOf e).length = s) ∧
        Pinned g c off (es.flatMap cellsOf)∧TokOk g es.length c off cap tok
  | .mref b s off len cap,v=>∃ c,g.μ b = some c∧v = .slice (some ⟨c,off,none⟩) len cap∧len ≤ cap
  | .nilm,v=>v = .map none
  | .mapr b,v=>∃ c,g.μ b = some c∧v = .map (some c)
  | .mapf ks vs,v=>(ks = []∧vs = []∧v = .map none) ∨ ∃ c,v = .map (some c)∧g.Γ c 0 (mapMark ks vs)
  | .nilf,v=>v = .nilFunc
  | .fn f a b,v=>∃ x y,v = .func f x y∧VL g a x.toList∧VL g b y.toList
  | .nili,v=>v = .nilIface
  | .iface t x,v=>∃ y,v = .iface t y∧V g x y
  | .agg cs,v=>∃ x,v = .agg x∧VL g cs x.toList
  | .tuple cs,v=>∃ x,v = .tuple x∧VL g cs x.toList
def VL (g:Gh):List AV→List Value→Prop
  | [],l=>l = []
  | a :: as,l=>∃ v vs,l = v :: vs∧V g a v∧VL g as vs
end
theorem VL.length {g:Gh}:∀ {as:List AV} {vs:List Value},VL g as vs→vs.length = as.length
  | [],_,h=>by simp [VL] at h; simp [h]
  | a :: as,_,h=>by
    simp only [VL] at h
    obtain ⟨v,vs,rfl,_,h⟩:=h
    simp [VL.length h]
theorem VL.get {g:Gh}:∀ {as:List AV} {vs:List Value},VL g as vs→∀ (i:Nat) (a:AV),as[i]? = some a→∃ v,vs[i]? = some v∧V g a v
  | [],_,_,i,a,h=>by simp at h
  | x :: as,_,h,i,a,hi=>by
    simp only [VL] at h
    obtain ⟨v,vs,rfl,hv,h⟩:=h
    cases i with
    | zero=>simp at hi; subst hi; exact ⟨v,by simp,hv⟩
    | succ i=>simp at hi; obtain ⟨u,h1,h2⟩:=VL.get h i a hi; exact ⟨u,by simpa using h1,h2⟩
theorem VL.of_get {g:Gh}:∀ {as:List AV} {vs:List Value},vs.length = as.length→(∀ (i:Nat) (a:AV) (v:Value),as[i]? = some a→vs[i]? = some v→V g a v)→VL g as vs
  | [],vs,h,_=>by cases vs <;> simp_all [VL]
  | a :: as,vs,h,hh=>by
    cases vs with
    | nil=>simp at h
    | cons v vs=>
      simp only [VL]
      exact ⟨v,vs,rfl,hh 0 a v (by simp) (by simp),VL.of_get (by simpa using h) fun i x y hx hy=>hh (i + 1) x y (by simpa using hx) (by simpa using hy)⟩
theorem VL.append {g:Gh}:∀ {as bs:List AV} {vs us:List Value},VL g as vs→VL g bs us→VL g (as ++ bs) (vs ++ us)
  | [],bs,vs,us,h,h'=>by simp [VL] at h; subst h; simpa using h'
  | a :: as,bs,vs,us,h,h'=>by
    simp only [VL] at h
    obtain ⟨v,vs,rfl,hv,h⟩:=h
    exact ⟨v,vs ++ us,rfl,hv,VL.append h h'⟩
theorem VL.take {g:Gh} {as:List AV} {vs:List Value} (h:VL g as vs) (n:Nat):VL g (as.take n) (vs.take n):=by
  refine VL.of_get (by simp [h.length]) fun i a v ha hv=>?_
  rw [List.getElem?_take] at ha hv
  split at ha
  · rw [if_pos ‹_›] at hv
    obtain ⟨u,h1,h2⟩:=h.get i a ha
    rw [h1] at hv; cases hv; exact h2
  · simp at ha
theorem VL.drop {g:Gh} {as:List AV} {vs:List Value} (h:VL g as vs) (n:Nat):VL g (as.drop n) (vs.drop n):=by
  refine VL.of_get (by simp [h.length]) fun i a v ha hv=>?_
  rw [List.getElem?_drop] at ha hv
  obtain ⟨u,h1,h2⟩:=h.get _ a ha
  rw [h1] at hv; cases hv; exact h2
theorem V.cells {g:Gh} {a:AV} {v:Value} (h:V g a v) (hu:noUndef a = true):VL g (cellsOf a) v.cells.toList:=by
  cases a <;> simp only [V,noUndef,cellsOf,VL] at *
  case undef=>cases hu
  case bool=>subst h; exact ⟨_,[],rfl,rfl,rfl⟩
  case int=>subst h; exact ⟨_,[],rfl,rfl,rfl⟩
  case str=>subst h; exact ⟨_,[],rfl,rfl,rfl⟩
  case nilp=>subst h; exact ⟨_,[],rfl,rfl,rfl⟩
  case nils=>subst h; exact ⟨_,[],rfl,rfl,rfl⟩
  case nilm=>subst h; exact ⟨_,[],rfl,rfl,rfl⟩
  case nilf=>subst h; exact ⟨_,[],rfl,rfl,rfl⟩
  case nili=>subst h; exact ⟨_,[],rfl,rfl,rfl⟩
  case ptr=>obtain ⟨c,h1,rfl⟩:=h; exact ⟨_,[],rfl,⟨c,h1,rfl⟩,rfl⟩
  case pin=>obtain ⟨c,o,rfl,h1⟩:=h; exact ⟨_,[],rfl,⟨c,o,rfl,h1⟩,rfl⟩
  case slice=>
    rcases h with ⟨h0,h1⟩ | ⟨c,o,cap,rfl,h1⟩
    · obtain ⟨p,cap,rfl⟩:=h0.slice
      exact ⟨_,[],rfl,.inl ⟨h0,h1⟩,rfl⟩
    · exact ⟨_,[],rfl,.inr ⟨c,o,cap,rfl,h1⟩,rfl⟩
  case mref=>obtain ⟨c,h1,rfl,h2⟩:=h; exact ⟨_,[],rfl,⟨c,h1,rfl,h2⟩,rfl⟩
  case mapr=>obtain ⟨c,h1,rfl⟩:=h; exact ⟨_,[],rfl,⟨c,h1,rfl⟩,rfl⟩
  case mapf=>
    rcases h with ⟨rfl,rfl,rfl⟩ | ⟨c,rfl,h1⟩
    · exact ⟨_,[],rfl,.inl ⟨rfl,rfl,rfl⟩,rfl⟩
    · exact ⟨_,[],rfl,.inr ⟨c,rfl,h1⟩,rfl⟩
  case fn=>obtain ⟨x,y,rfl,h1⟩:=h; exact ⟨_,[],rfl,⟨x,y,rfl,h1⟩,rfl⟩
  case iface=>obtain ⟨y,rfl,h1⟩:=h; exact ⟨_,[],rfl,⟨y,rfl,h1⟩,rfl⟩
  case agg=>obtain ⟨x,rfl,h1⟩:=h; exact h1
  case tuple=>obtain ⟨x,rfl,h1⟩:=h; exact ⟨_,[],rfl,⟨x,rfl,h1⟩,rfl⟩
theorem V.one {g:Gh} {a:AV} {v:Value} (h:V g a v) (hc:cellOk a = true):v.oneCell' = true:=by
  cases a <;> simp only [V,cellOk] at * <;> first
    | (cases hc; done)
    | (rcases h with ⟨_,_,rfl⟩ | ⟨c,rfl,h1⟩ <;> rfl)
    | (subst h; rfl)
    | (obtain ⟨c,h1,rfl⟩:=h; rfl)
    | (obtain ⟨c,o,rfl,h1⟩:=h; rfl)
    | (rcases h with ⟨rfl | ⟨a,cap,rfl,_⟩,h1⟩ | ⟨c,o,cap,rfl,h1⟩ <;> rfl)
    | (obtain ⟨c,h1,rfl,h2⟩:=h; rfl)
    | (obtain ⟨c,rfl,h2⟩:=h; rfl)
structure TokLe (g g':Gh) (b:Oid):Prop where
  le:∀ s n',g'.tip b = some (s,n')→∃ s' n,g.tip b = some (s',n)∧n ≤ n'∧(n = n'→g'.bufc b = g.bufc b)
theorem TokOk.mono {g g':Gh} {len c off cap:Nat} {tok:Tok} (h:TokOk g len c off cap tok) (ht:∀ b,tok = .buf b→TokLe g g' b):TokOk g' len c off cap tok:=by
  cases tok with
  | none=>trivial
  | full=>exact h
  | buf b=>
    intro s n' hn
    obtain ⟨s',n,h1,h2,h3⟩:=(ht b rfl).le s n' hn
    obtain ⟨h4,h5⟩:=h s' n h1
    refine ⟨Nat.le_trans h4 h2,fun e=>?_⟩
    subst e
    have:n = len:=Nat.le_antisymm h2 h4
    subst this
    rw [h3 rfl]; exact h5 rfl
theorem Pinned.mono {g g':Gh} {c off:Nat} {cs:List AV} (h:Pinned g c off cs) (hg:∀ c o x,g.Γ c o x→g'.Γ c o x):Pinned g' c off cs :=
  fun i a ha=>⟨hg _ _ _ (h i a ha).1,(h i a ha).2⟩
mutual
theorem V.mono {g g':Gh} (hg:∀ c o x,g.Γ c o x→g'.Γ c o x):∀ (a:AV) (v:Value),(∀ b ∈ refs a,∀ c,g.μ b = some c→g'.μ b = some c) →
    (∀ b ∈ toks a,TokLe g g' b)→V g a v→V g' a v
  | .undef,_,_,_,h=>trivial
  | .bool b,v,_,_,h=>h
  | .int k n,v,_,_,h=>h
  | .str s,v,_,_,h=>h
  | .nilp,v,_,_,h=>h
  | .ptr b off,v,hm,_,h=>by
    obtain ⟨c,h1,h2⟩:=h
    exact ⟨c,hm b (by simp [refs]) c h1,h2⟩
  | .pin cs,v,_,_,h=>by
    obtain ⟨c,o,h1,h2⟩:=h
    exact ⟨c,o,h1,h2.mono hg⟩
  | .nils,v,_,_,h=>h
  | .slice tok s es,v,_,ht,h=>by
    rcases h with h | ⟨c,o,cap,h1,h2,h3,h4,h5⟩
    · exact .inl h
    · refine .inr ⟨c,o,cap,h1,h2,h3,h4.mono hg,h5.mono fun b hb=>ht b ?_⟩
      subst hb; simp [toks]
  | .mref b s off len cap,v,hm,_,h=>by
    obtain ⟨c,h1,h2⟩:=h
    exact ⟨c,hm b (by simp [refs]) c h1,h2⟩
  | .nilm,v,_,_,h=>h
  | .mapr b,v,hm,_,h=>by
    obtain ⟨c,h1,h2⟩:=h
    exact ⟨c,hm b (by simp [refs]) c h1,h2⟩
  | .mapf ks vs,v,_,_,h=>by
    rcases h with h | ⟨c,h1,h2⟩
    · exact .inl h
    · exact .inr ⟨c,h1,hg _ _ _ h2⟩
  | .nilf,v,_,_,h=>h
  | .fn f a b,v,hm,ht,h=>by
    obtain ⟨x,y,h1,h2,h3⟩:=h
    simp only [refs,toks,List.mem_append] at hm ht
    exact ⟨x,y,h1,VL.mono hg a _ (fun b hb=>hm b (.inl hb)) (fun b hb=>ht b (.inl hb)) h2,VL.mono hg b _ (fun b hb=>hm b (.inr hb)) (fun b hb=>ht b (.inr hb)) h3⟩
  | .nili,v,_,_,h=>h
  | .iface t x,v,hm,ht,h=>by
    obtain ⟨y,h1,h2⟩:=h
    exact ⟨y,h1,V.mono hg x y (by simpa only [refs] using hm) (by simpa only [toks] using ht) h2⟩
  | .agg cs,v,hm,ht,h=>by
    obtain ⟨y,h1,h2⟩:=h
    exact ⟨y,h1,VL.mono hg cs _ (by simpa only [refs] using hm) (by simpa only [toks] using ht) h2⟩
  | .tuple cs,v,hm,ht,h=>by
    obtain ⟨y,h1,h2⟩:=h
    exact ⟨y,h1,VL.mono hg cs _ (by simpa only [refs] using hm) (by simpa only [toks] using ht) h2⟩
theorem VL.mono {g g':Gh} (hg:∀ c o x,g.Γ c o x→g'.Γ c o x):∀ (as:List AV) (vs:List Value),(∀ b ∈ refsL as,∀ c,g.μ b = some c→g'.μ b = some c) →
    (∀ b ∈ toksL as,TokLe g g' b)→VL g as vs→VL g' as vs
  | [],_,_,_,h=>h
  | a :: as,_,hm,ht,h=>by
    obtain ⟨v,vs,h1,h2,h3⟩:=h
    simp only [refsL,toksL,List.mem_append] at hm ht
    exact ⟨v,vs,h1,V.mono hg a v (fun b hb=>hm b (.inl hb)) (fun b hb=>ht b (.inl hb)) h2,VL.mono hg as vs (fun b hb=>hm b (.inr hb)) (fun b hb=>ht b (.inr hb)) h3⟩
end
mutual
theorem V.clean {g:Gh}:∀ (a:AV) (v:Value),V g a v→V g (clean a) v
  | .slice tok s es,v,h=>by
    cases tok with
    | buf b=>
      rcases h with h | ⟨c,o,cap,h1,h2,h3,h4,h5⟩
      · exact .inl ⟨h.1.none,h.2⟩
      · exact .inr ⟨c,o,cap,h1,h2,h3,h4,trivial⟩
    | none=>exact h
    | full=>exact h
  | .fn f a b,v,h=>by
    obtain ⟨x,y,h1,h2,h3⟩:=h
    exact ⟨x,y,h1,VL.clean a _ h2,VL.clean b _ h3⟩
  | .iface t x,v,h=>by
    obtain ⟨y,h1,h2⟩:=h
    exact ⟨y,h1,V.clean x y h2⟩
  | .agg cs,v,h=>by
    obtain ⟨y,h1,h2⟩:=h
    exact ⟨y,h1,VL.clean cs _ h2⟩
  | .tuple cs,v,h=>by
    obtain ⟨y,h1,h2⟩:=h
    exact ⟨y,h1,VL.clean cs _ h2⟩
  | .undef,v,h=>h
  | .bool b,v,h=>h
  | .int k n,v,h=>h
  | .str s,v,h=>h
  | .nilp,v,h=>h
  | .ptr b off,v,h=>h
  | .pin cs,v,h=>h
  | .nils,v,h=>h
  | .mref b s off len cap,v,h=>h
  | .nilm,v,h=>h
  | .mapr b,v,h=>h
  | .mapf _ _,v,h=>h
  | .nilf,v,h=>h
  | .nili,v,h=>h
theorem VL.clean {g:Gh}:∀ (as:List AV) (vs:List Value),VL g as vs→VL g (cleanL as) vs
  | [],_,h=>h
  | a :: as,_,h=>by
    obtain ⟨v,vs,h1,h2,h3⟩:=h
    exact ⟨v,vs,h1,V.clean a v h2,VL.clean as vs h3⟩
end
mutual
theorem V.strip {g:Gh} (p:Oid→Bool):∀ (a:AV) (v:Value),V g a v→V g (strip p a) v
  | .slice tok s es,v,h=>by
    cases tok with
    | buf b=>
      simp only [AE.strip]
      split
      · rcases h with h | ⟨c,o,cap,h1,h2,h3,h4,h5⟩
        · exact .inl ⟨h.1.none,h.2⟩
        · exact .inr ⟨c,o,cap,h1,h2,h3,h4,trivial⟩
      · exact h
    | none=>exact h
    | full=>exact h
  | .fn f a b,v,h=>by
    obtain ⟨x,y,h1,h2,h3⟩:=h
    exact ⟨x,y,h1,VL.strip p a _ h2,VL.strip p b _ h3⟩
  | .iface t x,v,h=>by
    obtain ⟨y,h1,h2⟩:=h
    exact ⟨y,h1,V.strip p x y h2⟩
  | .agg cs,v,h=>by
    obtain ⟨y,h1,h2⟩:=h
    exact ⟨y,h1,VL.strip p cs _ h2⟩
  | .tuple cs,v,h=>by
    obtain ⟨y,h1,h2⟩:=h
    exact ⟨y,h1,VL.strip p cs _ h2⟩
  | .undef,v,h=>h
  | .bool b,v,h=>h
  | .int k n,v,h=>h
  | .str s,v,h=>h
  | .nilp,v,h=>h
  | .ptr b off,v,h=>by
    simp only [AE.strip]
    split
    · trivial
    · exact h
  | .pin cs,v,h=>h
  | .nils,v,h=>h
  | .mref b s off len cap,v,h=>by
    simp only [AE.strip]
    split
    · trivial
    · exact h
  | .nilm,v,h=>h
  | .mapr b,v,h=>by
    simp only [AE.strip]
    split
    · trivial
    · exact h
  | .mapf _ _,v,h=>h
  | .nilf,v,h=>h
  | .nili,v,h=>h
theorem VL.strip {g:Gh} (p:Oid→Bool):∀ (as:List AV) (vs:List Value),VL g as vs→VL g (stripL p as) vs
  | [],_,h=>h
  | a :: as,_,h=>by
    obtain ⟨v,vs,h1,h2,h3⟩:=h
    exact ⟨v,vs,h1,V.strip p a v h2,VL.strip p as vs h3⟩
end
end Go.Proofs.YtjojaiomgdjhfaaGreatDoor.AE
namespace Go.Proofs.YtjojaiomgdjhfaaGreatDoor.AE
open Go
section
variable {K α:Type} [DecidableEq K]
theorem find_ins (k k':K) (v:α):∀ l:List (K × α),find (ins k v l) k' = if k = k' then some v else find l k'
  | []=>by simp [ins,find]
  | (x,y) :: r=>by
    simp only [ins]
    split
    · rename_i h; subst h; simp only [find]; split <;> simp_all
    · simp only [find]; split
      · rename_i h1 h2; subst h2; simp [Ne.symm h1]
      · exact find_ins k k' v r
theorem find_filter (p:K × α→Bool) (q:K→Bool) (hp:∀ x,p x = q x.1) (k:K):∀ l:List (K × α),find (l.filter p) k = if q k then find l k else none
  | []=>by simp [find]
  | (x,y) :: r=>by
    simp only [List.filter_cons,hp]
    split
    · simp only [find]; split
      · rename_i h; subst h; simp_all
      · exact find_filter p q hp k r
    · rename_i h
      rw [find_filter p q hp k r]
      simp only [find]
      by_cases hx:x = k
      · subst hx; rw [if_neg h,if_neg h]
      · rw [if_neg hx]
theorem find_map {β:Type} (f:α→β) (k:K):∀ l:List (K × α),find (l.map fun x=>(x.1,f x.2)) k = (find l k).map f
  | []=>rfl
  | (x,y) :: r=>by
    simp only [List.map_cons,find]
    split
    · rfl
    · exact find_map f k r
theorem find_mem {k:K} {v:α}:∀ {l:List (K × α)},find l k = some v→(k,v) ∈ l
  | [],h=>by simp [find] at h
  | (x,y) :: r,h=>by
    simp only [find] at h
    split at h
    · rename_i e; subst e; cases h; simp
    · exact List.mem_cons_of_mem _ (find_mem h)
end
theorem find_put (k k':Nat) (v:AV):∀ A:Slots,find (put k v A) k' = if k = k' then some v else find A k'
  | []=>by simp [put,find]
  | (x,y) :: r=>by
    simp only [put]
    split
    · simp only [find]
    · split
      · rename_i h; subst h; simp only [find]; split <;> simp_all
      · rename_i h1 h2; simp only [find]; split
        · rename_i h3; subst h3; simp [Ne.symm h2]
        · exact find_put k k' v r
theorem getA_put (k k':Nat) (v:AV) (A:Slots):getA (put k v A) k' = if k = k' then v else getA A k':=by
  simp only [getA,find_put]; split <;> rfl
def tipOf (H:Heap) (b:Oid):Option (Nat × Nat):=match find H b with | some (.buf s n)=>some (s,n) | _=>none
def blockOf (g:Gh) (b:Oid):Ob→Option Nat
  | .buf _ _=>(g.bufc b).map (·.1)
  | _=>g.μ b
def ownOf (g:Gh) (b:Oid):Ob→Option Nat
  | .buf _ _=>(g.bufc b).map (·.1)
  | .cells .ro _=>none
  | _=>g.μ b
theorem ownOf_block {g:Gh} {b:Oid} {ob:Ob} {c:Nat} (h:ownOf g b ob = some c):blockOf g b ob = some c:=by
  cases ob with
  | cells wr cs=>cases wr <;> simp_all [ownOf,blockOf]
  | buf s n=>exact h
def ML (g:Gh):List (AV × AV)→List MapEntry→Prop
  | [],l=>l = []
  | e :: es,l=>∃ x r,l = x :: r∧V g e.1 x.key∧V g e.2 x.val∧ML g es r
def refsE (es:List (AV × AV)):List Oid:=es.flatMap fun e=>refs e.1 ++ refs e.2
def toksE (es:List (AV × AV)):List Oid:=es.flatMap fun e=>toks e.1 ++ toks e.2
theorem ML.map {g g':Gh}:∀ {es:List (AV × AV)} {l:List MapEntry},(∀ e ∈ es,∀ v,(V g e.1 v→V g' e.1 v)∧(V g e.2 v→V g' e.2 v))→ML g es l→ML g' es l
  | [],_,_,h=>h
  | e :: es,_,hh,h=>by
    obtain ⟨x,r,h1,h2,h3,h4⟩:=h
    exact ⟨x,r,h1,(hh e (by simp) _).1 h2,(hh e (by simp) _).2 h3,ML.map (fun e he=>hh e (by simp [he])) h4⟩
theorem ML.length {g:Gh}:∀ {es:List (AV × AV)} {l:List MapEntry},ML g es l→l.length = es.length
  | [],_,h=>by simp [ML] at h; simp [h]
  | e :: es,_,h=>by
    obtain ⟨x,r,rfl,_,_,h⟩:=h
    simp [ML.length h]
theorem ML.all {g g':Gh} {es:List (AV × AV)} {l:List MapEntry} (h:ML g es l) (hV:∀ a v,(∀ b ∈ refs a,b ∈ refsE es)→(∀ b ∈ toks a,b ∈ toksE es)→V g a v→V g' a v):ML g' es l:=by
  refine h.map fun e he v=>?_
  have m1:∀ b,b ∈ refs e.1 ++ refs e.2→b ∈ refsE es:=fun b hb=>List.mem_flatMap.2 ⟨e,he,hb⟩
  have m2:∀ b,b ∈ toks e.1 ++ toks e.2→b ∈ toksE es:=fun b hb=>List.mem_flatMap.2 ⟨e,he,hb⟩
  exact ⟨hV _ v (fun b hb=>m1 b (List.mem_append_left _ hb)) (fun b hb=>m2 b (List.mem_append_left _ hb)),hV _ v (fun b hb=>m1 b (List.mem_append_right _ hb)) (fun b hb=>m2 b (List.mem_append_right _ hb))⟩
theorem refsL_mem:∀ {l:List AV} {a:AV} {b:Oid},a ∈ l→b ∈ refs a→b ∈ refsL l
  | x :: r,a,b,h,hb=>by
    simp only [refsL,List.mem_append]
    rcases List.mem_cons.1 h with rfl | h
    · exact .inl hb
    · exact .inr (refsL_mem h hb)
theorem toksL_mem:∀ {l:List AV} {a:AV} {b:Oid},a ∈ l→b ∈ toks a→b ∈ toksL l
  | x :: r,a,b,h,hb=>by
    simp only [toksL,List.mem_append]
    rcases List.mem_cons.1 h with rfl | h
    · exact .inl hb
    · exact .inr (toksL_mem h hb)
theorem refsL_of:∀ {l:List AV} {b:Oid},b ∈ refsL l→∃ a ∈ l,b ∈ refs a
  | x :: r,b,h=>by
    simp only [refsL,List.mem_append] at h
    rcases h with h | h
    · exact ⟨x,List.mem_cons_self,h⟩
    · obtain ⟨a,h1,h2⟩:=refsL_of h; exact ⟨a,List.mem_cons_of_mem _ h1,h2⟩
theorem toksL_of:∀ {l:List AV} {b:Oid},b ∈ toksL l→∃ a ∈ l,b ∈ toks a
  | x :: r,b,h=>by
    simp only [toksL,List.mem_append] at h
    rcases h with h | h
    · exact ⟨x,List.mem_cons_self,h⟩
    · obtain ⟨a,h1,h2⟩:=toksL_of h; exact ⟨a,List.mem_cons_of_mem _ h1,h2⟩
theorem zip_off {ks vs:List AV}:(∀ b ∈ refsE (ks.zip vs),b ∈ refsL ks ∨ b ∈ refsL vs)∧∀ b ∈ toksE (ks.zip vs),b ∈ toksL ks ∨ b ∈ toksL vs:=by
  refine ⟨fun b hb=>?_,fun b hb=>?_⟩ <;>
  · obtain ⟨e,he,hb⟩:=List.mem_flatMap.1 hb
    have hz:=List.of_mem_zip (a:=e.1) (b:=e.2) he
    rcases List.mem_append.1 hb with hb | hb
    · first | exact .inl (refsL_mem hz.1 hb) | exact .inl (toksL_mem hz.1 hb)
    · first | exact .inr (refsL_mem hz.2 hb) | exact .inr (toksL_mem hz.2 hb)
theorem esOf_off {kd:IntKind} {n:Nat}:∀ {ks:List Int} {cs:List AV},(∀ b ∈ refsE (esOf kd n ks cs),b ∈ refsL cs)∧∀ b ∈ toksE (esOf kd n ks cs),b ∈ toksL cs
  | [],cs=>⟨fun b h=>by simp [esOf,refsE] at h,fun b h=>by simp [esOf,toksE] at h⟩
  | k :: ks,cs=>by
    obtain ⟨h1,h2⟩:=esOf_off (kd:=kd) (n:=n) (ks:=ks) (cs:=cs.drop n)
    refine ⟨fun b hb=>?_,fun b hb=>?_⟩
    · simp only [esOf,refsE,List.flatMap_cons,refs,List.nil_append,List.mem_append] at hb
      rcases hb with hb | hb
      · obtain ⟨a,q1,q2⟩:=refsL_of hb
        exact refsL_mem (List.mem_of_mem_take q1) q2
      · obtain ⟨a,q1,q2⟩:=refsL_of (h1 b hb)
        exact refsL_mem (List.mem_of_mem_drop q1) q2
    · simp only [esOf,toksE,List.flatMap_cons,toks,List.nil_append,List.mem_append] at hb
      rcases hb with hb | hb
      · obtain ⟨a,q1,q2⟩:=toksL_of hb
        exact toksL_mem (List.mem_of_mem_take q1) q2
      · obtain ⟨a,q1,q2⟩:=toksL_of (h2 b hb)
        exact toksL_mem (List.mem_of_mem_drop q1) q2
def Body (g:Gh) (w:World) (c:Nat):Fl→List AV→Prop
  | .mk kd ks n,cs=>∃ l k,w.heap[c]? = some (.map l k)∧cs.length = ks.length * n∧ML g (esOf kd n ks cs) l.toList
  | .mw,cs=>∃ l k ks vs a,w.heap[c]? = some (.map l k)∧ks.length = vs.length∧(refsL ks = []∧refsL vs = []∧toksL ks = []∧toksL vs = [])∧ML g (ks.zip vs) l.toList∧cs = [a]∧(a = .undef ∨ a = .mapf ks vs)
  | _,cs=>∃ vs e,w.heap[c]? = some (.cells vs e (0,0))∧VL g cs vs.toList
theorem zip_nil {ks vs:List AV} (h:refsL ks = []∧refsL vs = []∧toksL ks = []∧toksL vs = []) {a:AV} (h1:∀ b ∈ refs a,b ∈ refsE (ks.zip vs)) (h2:∀ b ∈ toks a,b ∈ toksE (ks.zip vs)):refs a = []∧toks a = []:=by
  obtain ⟨q1,q2,q3,q4⟩:=h
  refine ⟨List.eq_nil_iff_forall_not_mem.2 fun b hb=>?_,List.eq_nil_iff_forall_not_mem.2 fun b hb=>?_⟩
  · rcases zip_off.1 b (h1 b hb) with h | h
    · rw [q1] at h; cases h
    · rw [q2] at h; cases h
  · rcases zip_off.2 b (h2 b hb) with h | h
    · rw [q3] at h; cases h
    · rw [q4] at h; cases h
theorem Body.mono {g g':Gh} {w w':World} {c:Nat} {f:Fl} {cs:List AV} (h:Body g w c f cs) (hw:w'.heap[c]? = w.heap[c]?) (hV:∀ a v,(∀ b ∈ refs a,b ∈ refsL cs)→(∀ b ∈ toks a,b ∈ toksL cs)→V g a v→V g' a v):Body g' w' c f cs:=by
  have row:(∃ vs e,w.heap[c]? = some (.cells vs e (0,0))∧VL g cs vs.toList)→∃ vs e,w'.heap[c]? = some (.cells vs e (0,0))∧VL g' cs vs.toList:=by
    rintro ⟨vs,e,h1,h2⟩
    refine ⟨vs,e,hw.trans h1,VL.of_get h2.length fun i a v ha hv=>?_⟩
    obtain ⟨u,q1,q2⟩:=h2.get i a ha
    rw [q1] at hv; cases hv
    exact hV a _ (fun b hb=>refsL_mem (List.mem_of_getElem? ha) hb) (fun b hb=>toksL_mem (List.mem_of_getElem? ha) hb) q2
  cases f with
  | ro=>exact row h
  | rw=>exact row h
  | mk kd ks n=>
    obtain ⟨l,k,h1,h2,h3⟩:=h
    exact ⟨l,k,hw.trans h1,h2,h3.all fun a v r1 r2 hv=>hV a v (fun b hb=>esOf_off.1 b (r1 b hb)) (fun b hb=>esOf_off.2 b (r2 b hb)) hv⟩
  | mw=>
    obtain ⟨l,k,ks,vs,a,h1,h2,h3,h4,h5,h6⟩:=h
    exact ⟨l,k,ks,vs,a,hw.trans h1,h2,h3,h4.all fun a v r1 r2 hv=>(by
      obtain ⟨n1,n2⟩:=zip_nil h3 r1 r2
      exact hV a v (by simp [n1]) (by simp [n2]) hv),h5,h6⟩
theorem Body.lt {g:Gh} {w:World} {c:Nat} {f:Fl} {cs:List AV} (h:Body g w c f cs):c < w.heap.size:=by
  cases f with
  | ro=>obtain ⟨vs,e,h1,_⟩:=h; exact (Array.getElem?_eq_some_iff.1 h1).1
  | rw=>obtain ⟨vs,e,h1,_⟩:=h; exact (Array.getElem?_eq_some_iff.1 h1).1
  | mk kd ks n=>obtain ⟨l,k,h1,_⟩:=h; exact (Array.getElem?_eq_some_iff.1 h1).1
  | mw=>obtain ⟨l,k,ks,vs,a,h1,_⟩:=h; exact (Array.getElem?_eq_some_iff.1 h1).1
theorem esOf_weak {g g':Gh} {kd:IntKind} {n:Nat}:∀ {ks:List Int} {cs cs':List AV} {l:List MapEntry},cs'.length = cs.length→(∀ (i:Nat) a a' v,cs[i]? = some a→cs'[i]? = some a'→V g a v→V g' a' v)→ML g (esOf kd n ks cs) l→ML g' (esOf kd n ks cs') l
  | [],cs,cs',l,_,_,h=>h
  | k :: ks,cs,cs',l,hl,hV,h=>by
    obtain ⟨x,r,h1,h2,⟨us,h3,h4⟩,h5⟩:=h
    refine ⟨x,r,h1,h2,⟨us,h3,VL.of_get (by rw [h4.length,List.length_take,List.length_take,hl]) fun i a' v ha hv=>?_⟩,esOf_weak (by simp [hl]) (fun i a a' v ha ha'=>?_) h5⟩
    · rw [List.getElem?_take] at ha
      split at ha
      case isFalse=>cases ha
      rename_i hlt
      have hi:i < cs.length:=by rw [← hl]; exact (List.getElem?_eq_some_iff.1 ha).1
      obtain ⟨u,q1,q2⟩:=h4.get i cs[i] (by rw [List.getElem?_take,if_pos hlt,List.getElem?_eq_getElem hi])
      rw [q1] at hv; cases hv
      exact hV i _ a' _ (List.getElem?_eq_getElem hi) ha q2
    · rw [List.getElem?_drop] at ha ha'
      exact hV _ a a' v ha ha'
theorem Body.point {g g':Gh} {w:World} {c:Nat} {f:Fl} {cs cs':List AV} (h:Body g w c f cs) (hf:f ≠ .mw) (hl:cs'.length = cs.length) (hV:∀ (i:Nat) a a' v,cs[i]? = some a→cs'[i]? = some a'→V g a v→V g' a' v):Body g' w c f cs':=by
  have row:(∃ vs e,w.heap[c]? = some (.cells vs e (0,0))∧VL g cs vs.toList)→∃ vs e,w.heap[c]? = some (.cells vs e (0,0))∧VL g' cs' vs.toList:=by
    rintro ⟨vs,e,h1,h2⟩
    refine ⟨vs,e,h1,VL.of_get (by rw [h2.length,hl]) fun i a' v ha hv=>?_⟩
    have hi:i < cs.length:=by rw [← hl]; exact (List.getElem?_eq_some_iff.1 ha).1
    obtain ⟨u,q1,q2⟩:=h2.get i cs[i] (List.getElem?_eq_getElem hi)
    rw [q1] at hv; cases hv
    exact hV i _ a' _ (List.getElem?_eq_getElem hi) ha q2
  cases f with
  | ro=>exact row h
  | rw=>exact row h
  | mk kd ks n=>
    obtain ⟨l,k,h1,h2,h3⟩:=h
    exact ⟨l,k,h1,hl.trans h2,esOf_weak hl hV h3⟩
  | mw=>exact (hf rfl).elim
theorem mw_cell {ks vs:List AV} {a:AV} (h:∀ g1 v,V g1 (.mapf ks vs) v→V g1 a v):a = .undef ∨ a = .mapf ks vs:=by
  have:=h ⟨fun c o a=>a = mapMark ks vs,fun _=>none,fun _=>none,fun _=>none⟩ (.map (some 0)) (.inr ⟨0,rfl,rfl⟩)
  cases a <;> simp only [V] at this <;> first | (exact .inl rfl) | (cases this; done) | skip
  all_goals first
    | (rcases this with ⟨_,_,h⟩ | ⟨c,_,h⟩
       · cases h
       · simp only [mapMark,AV.tuple.injEq,List.cons.injEq,AV.agg.injEq,and_true] at h
         obtain ⟨rfl,rfl⟩:=h
         exact .inr rfl)
    | (rcases this with ⟨h | ⟨_,_,h,_⟩,_⟩ | ⟨_,_,_,h,_⟩ <;> cases h; done)
    | (obtain ⟨_,h,_⟩:=this; cases h; done)
    | (obtain ⟨_,_,h,_⟩:=this; cases h; done)
theorem Body.weak {g:Gh} {w:World} {c:Nat} {f:Fl} {cs cs':List AV} (h:Body g w c f cs) (hl:cs'.length = cs.length) (hV:∀ (g1:Gh) (i:Nat) a a' v,cs[i]? = some a→cs'[i]? = some a'→V g1 a v→V g1 a' v):Body g w c f cs':=by
  have row:(∃ vs e,w.heap[c]? = some (.cells vs e (0,0))∧VL g cs vs.toList)→∃ vs e,w.heap[c]? = some (.cells vs e (0,0))∧VL g cs' vs.toList:=by
    rintro ⟨vs,e,h1,h2⟩
    refine ⟨vs,e,h1,VL.of_get (by rw [h2.length,hl]) fun i a' v ha hv=>?_⟩
    have hi:i < cs.length:=by rw [← hl]; exact (List.getElem?_eq_some_iff.1 ha).1
    obtain ⟨u,q1,q2⟩:=h2.get i cs[i] (List.getElem?_eq_getElem hi)
    rw [q1] at hv; cases hv
    exact hV g i _ a' _ (List.getElem?_eq_getElem hi) ha q2
  cases f with
  | ro=>exact row h
  | rw=>exact row h
  | mk kd ks n=>
    obtain ⟨l,k,h1,h2,h3⟩:=h
    exact ⟨l,k,h1,hl.trans h2,esOf_weak hl (hV g) h3⟩
  | mw=>
    obtain ⟨l,k,ks,vs,a,h1,h2,h3,h4,rfl,h6⟩:=h
    match cs',hl with
    | [a'],_=>exact ⟨l,k,ks,vs,a',h1,h2,h3,h4,rfl,mw_cell fun g1 v hv=>hV g1 0 a a' v rfl rfl (by rcases h6 with rfl | rfl; exact trivial; exact hv)⟩
theorem Body.ents {g:Gh} {w:World} {c:Nat} {f:Fl} {cs:List AV} {es:List (AV × AV)} (h:Body g w c f cs) (he:entsOf f cs = some es):∃ l k,w.heap[c]? = some (.map l k)∧ML g es l.toList:=by
  unfold entsOf at he
  split at he
  · rename_i ks' vs'
    split at he
    · cases he
      obtain ⟨l,k,ks,vs,a,h1,h2,h3,h4,h5,h6⟩:=h
      cases h5
      rcases h6 with h6 | h6
      · cases h6
      · cases h6; exact ⟨l,k,h1,h4⟩
    · cases he
  · split at he
    · cases he
      obtain ⟨l,k,h1,h2,h3⟩:=h
      exact ⟨l,k,h1,h3⟩
    · cases he
  · cases he
theorem Body.row {g:Gh} {w:World} {c:Nat} {f:Fl} {cs:List AV} (h:Body g w c f cs) (hr:f.row = true):∃ vs e,w.heap[c]? = some (.cells vs e (0,0))∧VL g cs vs.toList:=by
  cases f <;> first | exact h | cases hr
def ObOk (g:Gh) (w:World) (b:Oid):Ob→Prop
  | .cells f cs=>∃ c,g.μ b = some c∧Body g w c f cs∧∀ o,g.Γ c o = nob
  | .buf s n=>∀ c cap,g.bufc b = some (c,cap)→∃ vs e,w.heap[c]? = some (.cells vs e (0,0))∧cap * s ≤ vs.size∧n ≤ cap∧∀ o,n * s ≤ o→g.Γ c o = nob
theorem V.still {g g':Gh} (hg:∀ c o x,g.Γ c o x→g'.Γ c o x) {a:AV} {v:Value} (h1:refs a = []) (h2:toks a = []) (h:V g a v):V g' a v:=V.mono hg a v (by simp [h1]) (by simp [h2]) h
def PinOk (g:Gh) (w:World) (c o:Nat) (a:AV):Prop :=
  (cellOk a = true∧∃ v,w.cell? ⟨c,o,none⟩ = some v∧V g a v∧refs a = []∧toks a = []) ∨
  ∃ ks vs l k,a = mapMark ks vs∧o = 0∧ks.length = vs.length∧w.heap[c]? = some (.map l k)∧ML g (ks.zip vs) l.toList∧refsL ks = []∧refsL vs = []∧toksL ks = []∧toksL vs = []
theorem PinOk.mono {g g':Gh} {w w':World} {c o:Nat} {a:AV} (h:PinOk g w c o a) (hV:∀ a v,refs a = []→toks a = []→V g a v→V g' a v)
    (hc:cellOk a = true→∀ v,w.cell? ⟨c,o,none⟩ = some v→w'.cell? ⟨c,o,none⟩ = some v) (hm:∀ l k,w.heap[c]? = some (.map l k)→w'.heap[c]? = some (.map l k)):PinOk g' w' c o a:=by
  rcases h with ⟨h0,v,h1,h2,h3,h4⟩ | ⟨ks,vs,l,k,h1,h2,h3,h4,h5,h6,h7,h8,h9⟩
  · exact .inl ⟨h0,v,hc h0 v h1,hV a v h3 h4 h2,h3,h4⟩
  · refine .inr ⟨ks,vs,l,k,h1,h2,h3,hm l k h4,h5.all fun a v r1 r2 hv=>hV a v ?_ ?_ hv,h6,h7,h8,h9⟩
    · refine List.eq_nil_iff_forall_not_mem.2 fun b hb=>?_
      rcases zip_off.1 b (r1 b hb) with h | h
      · rw [h6] at h; cases h
      · rw [h7] at h; cases h
    · refine List.eq_nil_iff_forall_not_mem.2 fun b hb=>?_
      rcases zip_off.2 b (r2 b hb) with h | h
      · rw [h8] at h; cases h
      · rw [h9] at h; cases h
theorem PinOk.gam {g g':Gh} {w w':World} {c o:Nat} {a:AV} (h:PinOk g w c o a) (hg:∀ c o x,g.Γ c o x→g'.Γ c o x) (hw:w'.heap[c]? = w.heap[c]?):PinOk g' w' c o a :=
  h.mono (fun a v r1 r2 hv=>hv.still hg r1 r2) (fun _ v hv=>by unfold World.cell? at hv ⊢; simp only [hw]; exact hv) fun l k h=>hw.trans h
theorem PinOk.cell {g:Gh} {w:World} {c o:Nat} {a:AV} (h:PinOk g w c o a) (ha:cellOk a = true):∃ v,w.cell? ⟨c,o,none⟩ = some v∧V g a v∧refs a = []∧toks a = []:=by
  rcases h with ⟨_,h⟩ | ⟨ks,vs,l,k,rfl,_⟩
  · exact h
  · cases ha
theorem PinOk.world {g:Gh} {w w':World} {c o:Nat} {a:AV} (h:PinOk g w c o a) (hw:w'.heap[c]? = w.heap[c]?):PinOk g w' c o a :=
  h.mono (fun _ _ _ _ h=>h) (fun _ v hv=>by unfold World.cell? at hv ⊢; simp only [hw]; exact hv) fun l k h=>hw.trans h
structure WC (g:Gh) (H:Heap) (w:World):Prop where
  tip:∀ b,g.tip b = tipOf H b
  pin:∀ c o a,g.Γ c o a→PinOk g w c o a
  objs:∀ b ob,find H b = some ob→ObOk g w b ob
  inj:∀ b b' ob ob' c,find H b = some ob→find H b' = some ob'→blockOf g b ob = some c→blockOf g b' ob' = some c→b = b'
def Live (g:Gh) (H:Heap) (c:Nat):Prop:=∃ b ob,find H b = some ob∧ownOf g b ob = some c
def Used (g:Gh) (H:Heap) (c:Nat):Prop:=∃ b ob,find H b = some ob∧blockOf g b ob = some c
theorem Live.used {g:Gh} {H:Heap} {c:Nat} (h:Live g H c):Used g H c:=by
  obtain ⟨b,ob,h1,h2⟩:=h
  exact ⟨b,ob,h1,ownOf_block h2⟩
structure Ctx (w0:World) (g0:Gh) (H0:Heap) (g:Gh) (H:Heap) (w:World):Prop where
  size:w0.heap.size ≤ w.heap.size
  keep:∀ c,c < w0.heap.size→¬ Live g0 H0 c→w.heap[c]? = w0.heap[c]?∧∀ o,g.Γ c o = g0.Γ c o
  gam:∀ c o a,g0.Γ c o a→g.Γ c o a
  own:∀ c,Live g H c→Live g0 H0 c ∨ w0.heap.size ≤ c
  usd:∀ c,Used g H c→Used g0 H0 c ∨ w0.heap.size ≤ c
  os:w.os = w0.os
  out:w.output = w0.output
  tape:w.tape = w0.tape
theorem Ctx.refl (w:World) (g:Gh) (H:Heap):Ctx w g H g H w :=
  ⟨Nat.le_refl _,fun _ _ _=>⟨rfl,fun _=>rfl⟩,fun _ _ _ h=>h,fun c h=>.inl h,fun c h=>.inl h,rfl,rfl,rfl⟩
theorem Ctx.trans {w0 w1 w2:World} {g0 g1 g2:Gh} {H0 H1 H2:Heap} (h:Ctx w0 g0 H0 g1 H1 w1) (k:Ctx w1 g1 H1 g2 H2 w2):Ctx w0 g0 H0 g2 H2 w2:=by
  refine ⟨Nat.le_trans h.size k.size,fun c hc ho=>?_,fun c o a e=>k.gam _ _ _ (h.gam _ _ _ e),fun c hl=>?_,fun c hl=>?_,k.os.trans h.os,k.out.trans h.out,k.tape.trans h.tape⟩
  · have hn:¬ Live g1 H1 c:=fun hl=>(h.own c hl).elim ho (fun x=>by omega)
    obtain ⟨e1,e2⟩:=h.keep c hc ho
    obtain ⟨f1,f2⟩:=k.keep c (Nat.lt_of_lt_of_le hc h.size) hn
    exact ⟨f1.trans e1,fun o=>(f2 o).trans (e2 o)⟩
  · rcases k.own c hl with h1 | h1
    · exact h.own c h1
    · exact .inr (Nat.le_trans h.size h1)
  · rcases k.usd c hl with h1 | h1
    · exact h.usd c h1
    · exact .inr (Nat.le_trans h.size h1)
structure Keep (F:Oid→Prop) (g g':Gh):Prop where
  gam:∀ c o x,g.Γ c o x→g'.Γ c o x
  mu:∀ b,¬ F b→∀ c,g.μ b = some c→g'.μ b = some c
  tok:∀ b,¬ F b→TokLe g g' b
theorem TokLe.same {g g':Gh} {b:Oid} (h:g'.tip b = g.tip b) (k:g'.bufc b = g.bufc b):TokLe g g' b :=
  ⟨fun s n' hn=>⟨s,n',by rw [← h]; exact hn,Nat.le_refl _,fun _=>k⟩⟩
theorem TokLe.gone {g g':Gh} {b:Oid} (h:g'.tip b = none):TokLe g g' b:=⟨fun s n' hn=>by rw [h] at hn; cases hn⟩
theorem Keep.refl (F:Oid→Prop) (g:Gh):Keep F g g:=⟨fun _ _ _ h=>h,fun _ _ _ h=>h,fun _ _=>.same rfl rfl⟩
theorem TokLe.trans {g g' g'':Gh} {b:Oid} (h:TokLe g g' b) (k:TokLe g' g'' b):TokLe g g'' b:=by
  refine ⟨fun s n'' hn=>?_⟩
  obtain ⟨s',n',h1,h2,h3⟩:=k.le s n'' hn
  obtain ⟨s0,n,k1,k2,k3⟩:=h.le s' n' h1
  refine ⟨s0,n,k1,Nat.le_trans k2 h2,fun e=>?_⟩
  subst e
  have e':n = n':=Nat.le_antisymm k2 h2
  subst e'
  rw [h3 rfl,k3 rfl]
theorem Keep.trans {F:Oid→Prop} {g g' g'':Gh} (h:Keep F g g') (k:Keep F g' g''):Keep F g g'' :=
  ⟨fun c o x e=>k.gam _ _ _ (h.gam _ _ _ e),fun b hb c e=>k.mu b hb c (h.mu b hb c e),fun b hb=>(h.tok b hb).trans (k.tok b hb)⟩
theorem Keep.wider {F F':Oid→Prop} {g g':Gh} (h:Keep F g g') (hF:∀ b,F b→F' b):Keep F' g g' :=
  ⟨h.gam,fun b hb=>h.mu b (fun x=>hb (hF b x)),fun b hb=>h.tok b (fun x=>hb (hF b x))⟩
def Off (F:Oid→Prop) (a:AV):Prop:=(∀ b ∈ refs a,¬ F b)∧∀ b ∈ toks a,¬ F b
def OffL (F:Oid→Prop) (as:List AV):Prop:=(∀ b ∈ refsL as,¬ F b)∧∀ b ∈ toksL as,¬ F b
theorem Keep.V {F:Oid→Prop} {g g':Gh} (h:Keep F g g') {a:AV} {v:Value} (ha:Off F a) (hv:AE.V g a v):AE.V g' a v :=
  V.mono h.gam a v (fun b hb=>h.mu b (ha.1 b hb)) (fun b hb=>h.tok b (ha.2 b hb)) hv
theorem Keep.VL {F:Oid→Prop} {g g':Gh} (h:Keep F g g') {as:List AV} {vs:List Value} (ha:OffL F as) (hv:AE.VL g as vs):AE.VL g' as vs :=
  VL.mono h.gam as vs (fun b hb=>h.mu b (ha.1 b hb)) (fun b hb=>h.tok b (ha.2 b hb)) hv
theorem Keep.body {F:Oid→Prop} {g g':Gh} (h:Keep F g g') {w w':World} {c:Nat} {f:Fl} {cs:List AV} (ho:OffL F cs) (hw:w'.heap[c]? = w.heap[c]?) (hb:Body g w c f cs):Body g' w' c f cs :=
  hb.mono hw fun a v r1 r2 hv=>h.V ⟨fun b hb=>ho.1 b (r1 b hb),fun b hb=>ho.2 b (r2 b hb)⟩ hv
theorem Off.of_nil {F:Oid→Prop} {a:AV} (h1:refs a = []) (h2:toks a = []):Off F a:=⟨by simp [h1],by simp [h2]⟩
theorem Off.none (a:AV):Off (fun _=>False) a:=⟨fun _ _ h=>h,fun _ _ h=>h⟩
theorem OffL.none (a:List AV):OffL (fun _=>False) a:=⟨fun _ _ h=>h,fun _ _ h=>h⟩
theorem OffL.get {F:Oid→Prop}:∀ {as:List AV},OffL F as→∀ {i:Nat} {a:AV},as[i]? = some a→Off F a
  | [],_,i,a,h=>by simp at h
  | x :: as,h,i,a,hi=>by
    obtain ⟨h1,h2⟩:=h
    simp only [refsL,toksL,List.mem_append] at h1 h2
    cases i with
    | zero=>simp at hi; subst hi; exact ⟨fun b hb=>h1 b (.inl hb),fun b hb=>h2 b (.inl hb)⟩
    | succ i=>exact OffL.get (as:=as) ⟨fun b hb=>h1 b (.inr hb),fun b hb=>h2 b (.inr hb)⟩ (by simpa using hi)
theorem OffL.of_all {F:Oid→Prop}:∀ {as:List AV},(∀ a ∈ as,Off F a)→OffL F as
  | [],_=>⟨by simp [refsL],by simp [toksL]⟩
  | x :: as,h=>by
    have h1:=h x (by simp)
    have h2:=OffL.of_all (as:=as) fun a ha=>h a (by simp [ha])
    refine ⟨fun b hb=>?_,fun b hb=>?_⟩
    · simp only [refsL,List.mem_append] at hb
      exact hb.elim (h1.1 b) (h2.1 b)
    · simp only [toksL,List.mem_append] at hb
      exact hb.elim (h1.2 b) (h2.2 b)
theorem Keep.pinOk {F:Oid→Prop} {g g':Gh} (h:Keep F g g') {w w':World} {c o:Nat} {a:AV} (hp:PinOk g w c o a) (hw:w'.heap[c]? = w.heap[c]?):PinOk g' w' c o a :=
  (hp.world hw).mono (fun a v r1 r2 hv=>h.V (Off.of_nil r1 r2) hv) (fun _ _ h=>h) fun _ _ h=>h
theorem cell_of_block {w:World} {c:Nat} {vs:Array Value} {e:TypeId} {fz:Nat × Nat} (h:w.heap[c]? = some (.cells vs e fz)) (o:Nat):w.cell? ⟨c,o,none⟩ = vs[o]?:=by
  simp [World.cell?,h]
theorem WC.lt {g:Gh} {H:Heap} {w:World} (h:WC g H w) {c o:Nat} {a:AV} (hc:g.Γ c o a):c < w.heap.size:=by
  rcases h.pin c o a hc with ⟨_,v,h1,_⟩ | ⟨_,_,l,k,_,_,_,h1,_⟩
  · exact World.block_lt_of_cell? _ _ h1
  · exact (Array.getElem?_eq_some_iff.1 h1).1
theorem WC.noΓ {g:Gh} {H:Heap} {w:World} (h:WC g H w) {c:Nat} (hc:w.heap.size ≤ c) (o:Nat):g.Γ c o = nob:=by
  funext a
  refine propext ⟨fun he=>?_,fun h=>h.elim⟩
  have:=h.lt he; omega
theorem WC.used_lt {g:Gh} {H:Heap} {w:World} (h:WC g H w) {c:Nat} (hc:Used g H c):c < w.heap.size:=by
  obtain ⟨b,ob,h1,h2⟩:=hc
  have h3:=h.objs b ob h1
  cases ob with
  | cells wr cs=>
    obtain ⟨c',k1,k2,_⟩:=h3
    simp only [blockOf] at h2
    rw [k1] at h2; cases h2
    exact k2.lt
  | buf s n=>
    simp only [blockOf] at h2
    cases hb:g.bufc b with
    | none=>rw [hb] at h2; cases h2
    | some p=>
      obtain ⟨c',cap⟩:=p
      rw [hb] at h2; simp at h2; subst h2
      obtain ⟨vs,e,k2,_⟩:=h3 _ cap hb
      exact Array.getElem?_eq_some_iff.1 k2 |>.1
theorem heap_alloc_old (w:World) (o:Obj) {c:Nat} (h:c < w.heap.size):(w.alloc o).heap[c]? = w.heap[c]?:=by
  simp only [World.alloc]; rw [Array.getElem?_push,if_neg (by omega)]
theorem heap_alloc_new (w:World) (o:Obj):(w.alloc o).heap[w.heap.size]? = some o:=by
  show (w.heap.push o)[w.heap.size]? = _
  simp
structure Drew (w w':World):Prop where
  heap:w'.heap = w.heap
  tape:w'.tape = w.tape
  os:w'.os = w.os
  out:w'.output = w.output
theorem Drew.refl (w:World):Drew w w:=⟨rfl,rfl,rfl,rfl⟩
theorem Drew.drew (w:World):Drew w w.drew:=⟨rfl,rfl,rfl,rfl⟩
theorem WC.drew {g:Gh} {H:Heap} {w w':World} (h:WC g H w) (hd:Drew w w'):WC g H w':=by
  refine ⟨h.tip,fun c o a e=>(h.pin c o a e).world (by rw [hd.heap]),fun b ob e=>?_,h.inj⟩
  have:=h.objs b ob e
  cases ob with
  | cells f cs=>obtain ⟨c,k1,k2,k3⟩:=this; exact ⟨c,k1,k2.mono (by rw [hd.heap]) fun _ _ _ _ h=>h,k3⟩
  | buf s n=>simp only [ObOk,hd.heap] at this ⊢; exact this
theorem Ctx.drew {w w':World} (hd:Drew w w') (g:Gh) (H:Heap):Ctx w g H g H w' :=
  ⟨by rw [hd.heap]; exact Nat.le_refl _,fun c _ _=>⟨by rw [hd.heap],fun _=>rfl⟩,fun _ _ _ h=>h,fun c h=>.inl h,fun c h=>.inl h,hd.os,hd.out,hd.tape⟩
def Gh.pinAt (g:Gh) (c:Nat) (cs:List AV):Gh:={ g with Γ:=fun c' o=>if c' = c then fun a=>cs[o]? = some a else g.Γ c' o }
theorem Keep.pinAt {g:Gh} {H:Heap} {w:World} (h:WC g H w) (cs:List AV) (F:Oid→Prop):Keep F g (g.pinAt w.heap.size cs):=by
  refine ⟨fun c o x e=>?_,fun _ _ _ h=>h,fun _ _=>.same rfl rfl⟩
  have:=h.lt e
  simp only [Gh.pinAt]
  rw [if_neg (by omega)]; exact e
theorem WC.newPin {g:Gh} {H:Heap} {w:World} (h:WC g H w) (cs:List AV) (vs:Array Value) (e:TypeId) (hv:VL g cs (vs.toList.take cs.length))
    (hs:stillL cs = true):WC (g.pinAt w.heap.size cs) H (w.alloc (.cells vs e))∧Ctx w g H (g.pinAt w.heap.size cs) H (w.alloc (.cells vs e)):=by
  have hk:=Keep.pinAt h cs (fun _=>False)
  simp only [stillL,Bool.and_eq_true,List.isEmpty_iff,List.all_eq_true] at hs
  obtain ⟨⟨hr,ht⟩,hc⟩:=hs
  have hoff:OffL (fun _=>True) cs:=⟨by simp [hr],by simp [ht]⟩
  have hnil:∀ (i:Nat) a,cs[i]? = some a→refs a = []∧toks a = []:=by
    intro i a ha
    have:=OffL.get hoff ha
    exact ⟨List.eq_nil_iff_forall_not_mem.2 fun b hb=>this.1 b hb trivial,List.eq_nil_iff_forall_not_mem.2 fun b hb=>this.2 b hb trivial⟩
  refine ⟨⟨h.tip,fun c o a ha=>?_,fun b ob hb=>?_,h.inj⟩,⟨by simp,fun c hc _=>⟨heap_alloc_old _ _ hc,fun o=>by simp only [Gh.pinAt]; rw [if_neg (by omega)]⟩,hk.gam,fun c hl=>.inl hl,fun c hl=>.inl hl,rfl,rfl,rfl⟩⟩
  · simp only [Gh.pinAt] at ha
    split at ha
    · rename_i he; subst he
      obtain ⟨v,h1,h2⟩:=hv.get o a ha
      obtain ⟨n1,n2⟩:=hnil o a ha
      refine .inl ⟨hc a (List.mem_of_getElem? ha),v,?_,hk.V (Off.none _) h2,n1,n2⟩
      rw [cell_of_block (heap_alloc_new _ _),← Array.getElem?_toList]
      rw [List.getElem?_take] at h1
      split at h1 <;> simp_all
    · exact hk.pinOk (h.pin c o a ha) (heap_alloc_old _ _ (h.lt ha))
  · have h1:=h.objs b ob hb
    cases ob with
    | cells wr cs'=>
      obtain ⟨c,k1,k2,k4⟩:=h1
      have hlt:=k2.lt
      exact ⟨c,k1,hk.body (OffL.none _) (heap_alloc_old _ _ hlt) k2,fun o=>by simp only [Gh.pinAt]; rw [if_neg (by omega)]; exact k4 o⟩
    | buf s n=>
      intro c cap hcb
      obtain ⟨us,e',k2,k3,k5,k4⟩:=h1 c cap hcb
      have hlt:=(Array.getElem?_eq_some_iff.1 k2).1
      exact ⟨us,e',by rw [heap_alloc_old _ _ hlt]; exact k2,k3,k5,fun o ho=>by simp only [Gh.pinAt]; rw [if_neg (by omega)]; exact k4 o ho⟩
end Go.Proofs.YtjojaiomgdjhfaaGreatDoor.AE
namespace Go.Proofs.YtjojaiomgdjhfaaGreatDoor.AE
open Go
theorem setRow_size (w:World) (c:Nat) (cs:Array Value):(w.setRow c cs).heap.size = w.heap.size:=by simp [World.setRow]
theorem find_insAll {H:Heap}:∀ (ws:List (Oid × Ob)) (b:Oid),find (insAll H ws) b = match find ws b with | some ob=>some ob | none=>find H b
  | [],_=>rfl
  | (o,ob) :: r,b=>by
    simp only [insAll,find_ins,find]
    by_cases e:o = b
    · simp [e]
    · simp only [if_neg e]; exact find_insAll r b
def Gh.heap (g:Gh) (H:Heap):Gh:={ g with tip:=tipOf H }
theorem tipOf_ins (H:Heap) (o b:Oid) (ob:Ob):tipOf (ins o ob H) b = if o = b then (match ob with | .buf s n=>some (s,n) | _=>none) else tipOf H b:=by
  by_cases h:o = b
  · simp only [tipOf,find_ins,if_pos h]; cases ob <;> rfl
  · simp only [tipOf,find_ins,if_neg h]
theorem WC.put {g:Gh} {H:Heap} {w w':World} (h:WC g H w) {b:Oid} {f f':Fl} {cs cs':List AV} (hb:find H b = some (.cells f cs)) (hf:f ≠ .ro)
    {c:Nat} (hc:g.μ b = some c) (hg:∀ o,g.Γ c o = nob) (hold:∀ c',c' ≠ c→w'.heap[c']? = w.heap[c']?) (hsz:w'.heap.size = w.heap.size)
    (hos:w'.os = w.os) (hout:w'.output = w.output) (htape:w'.tape = w.tape) (hv:Body g w' c f' cs') :
    WC g (ins b (.cells f' cs') H) w'∧Ctx w g H g (ins b (.cells f' cs') H) w':=by
  have hbo:ownOf g b (.cells f cs) = some c:=by cases f <;> first | exact hc | exact (hf rfl).elim
  have hlive:Live g H c:=⟨b,_,hb,hbo⟩
  have htip:∀ x,tipOf (ins b (.cells f' cs') H) x = tipOf H x:=by
    intro x; rw [tipOf_ins]; split
    · rename_i e; subst e; simp [tipOf,hb]
    · rfl
  have hne:∀ c' o v,g.Γ c' o v→c' ≠ c:=by
    rintro c' o v e rfl; rw [hg o] at e; cases e
  have hlu:∀ c',Used g (ins b (.cells f' cs') H) c'→Used g H c':=by
    rintro c' ⟨x,ob,h1,h2⟩
    rw [find_ins] at h1
    split at h1
    · rename_i e; subst e; cases h1; exact ⟨b,_,hb,h2⟩
    · exact ⟨x,ob,h1,h2⟩
  have hlv:∀ c',Live g (ins b (.cells f' cs') H) c'→Live g H c':=by
    rintro c' ⟨x,ob,h1,h2⟩
    rw [find_ins] at h1
    split at h1
    · rename_i e; subst e; cases h1
      have:=ownOf_block h2
      simp only [blockOf] at this
      rw [hc] at this; cases this
      exact hlive
    · exact ⟨x,ob,h1,h2⟩
  refine ⟨⟨fun x=>(h.tip x).trans (htip x).symm,fun c' o a ha=>(h.pin c' o a ha).world (hold c' (hne c' o a ha)),fun x ob hx=>?_,fun x x' ob ob' c' h1 h2 h3 h4=>?_⟩,
    ⟨by rw [hsz]; exact Nat.le_refl _,fun c' _ hn=>⟨hold _ (fun e=>hn (e ▸ hlive)),fun _=>rfl⟩,fun _ _ _ h=>h,fun c' hl=>.inl (hlv c' hl),fun c' hl=>.inl (hlu c' hl),hos,hout,htape⟩⟩
  · rw [find_ins] at hx
    split at hx
    · rename_i e'; subst e'; cases hx
      exact ⟨c,hc,hv,hg⟩
    · rename_i hxb
      have h1:=h.objs x ob hx
      cases ob with
      | cells wr' cs2=>
        obtain ⟨c2,k1,k2,k3⟩:=h1
        have:c2 ≠ c:=fun e'=>hxb (h.inj b x _ _ c hb hx hc (by simp only [blockOf]; rw [k1,e']))
        exact ⟨c2,k1,k2.mono (hold _ this) fun _ _ _ _ h=>h,k3⟩
      | buf s n=>
        intro c2 cap hcb
        obtain ⟨us,e2,k2,k3⟩:=h1 c2 cap hcb
        have:c2 ≠ c:=fun e'=>hxb (h.inj b x _ _ c hb hx hc (by simp only [blockOf]; rw [hcb,← e']; rfl))
        exact ⟨us,e2,by rw [hold _ this]; exact k2,k3⟩
  · have cases_:∀ y oy,find (ins b (.cells f' cs') H) y = some oy→blockOf g y oy = some c'→∃ oy',find H y = some oy'∧blockOf g y oy' = some c':=by
      intro y oy hy hby
      rw [find_ins] at hy
      split at hy
      · rename_i e'; subst e'; cases hy; exact ⟨_,hb,hby⟩
      · exact ⟨oy,hy,hby⟩
    obtain ⟨o1,k1,k2⟩:=cases_ x ob h1 h3
    obtain ⟨o2,k3,k4⟩:=cases_ x' ob' h2 h4
    exact h.inj x x' o1 o2 c' k1 k3 k2 k4
theorem WC.store {g:Gh} {H:Heap} {w:World} (h:WC g H w) {b:Oid} {cs cs':List AV} (hb:find H b = some (.cells .rw cs))
    {c:Nat} {vs:Array Value} {e:TypeId} (hc:g.μ b = some c) (hw:w.heap[c]? = some (.cells vs e (0,0))) (hg:∀ o,g.Γ c o = nob)
    (vs':Array Value) (hv:VL g cs' vs'.toList) :
    WC g (ins b (.cells .rw cs') H) (w.setRow c vs')∧Ctx w g H g (ins b (.cells .rw cs') H) (w.setRow c vs') :=
  h.put hb (by simp) hc hg (fun c' hn=>setRow_other _ _ _ _ hn) (setRow_size _ _ _) rfl rfl rfl ⟨vs',e,setRow_heap w c vs vs' e (0,0) hw,hv⟩
def Gh.more (g:Gh) (c off:Nat) (cs:List AV):Gh:={ g with Γ:=fun c' o=>if c' = c∧off ≤ o∧o < off + cs.length then fun a=>cs[o - off]? = some a else g.Γ c' o }
theorem Keep.more {g:Gh} {c off:Nat} (hg:∀ o,off ≤ o→g.Γ c o = nob) (cs:List AV) (F:Oid→Prop):Keep F g (g.more c off cs):=by
  refine ⟨fun c' o x e=>?_,fun _ _ _ h=>h,fun _ _=>.same rfl rfl⟩
  simp only [Gh.more]
  rw [if_neg]
  · exact e
  · rintro ⟨rfl,h1,_⟩; rw [hg o h1] at e; cases e
theorem still_nil {cs:List AV} (hs:stillL cs = true):∀ (i:Nat) a,cs[i]? = some a→refs a = []∧toks a = []∧cellOk a = true:=by
  simp only [stillL,Bool.and_eq_true,List.isEmpty_iff,List.all_eq_true] at hs
  obtain ⟨⟨hr,ht⟩,hc⟩:=hs
  have hoff:OffL (fun _=>True) cs:=⟨by simp [hr],by simp [ht]⟩
  intro i a ha
  have:=OffL.get hoff ha
  exact ⟨List.eq_nil_iff_forall_not_mem.2 fun b hb=>this.1 b hb trivial,List.eq_nil_iff_forall_not_mem.2 fun b hb=>this.2 b hb trivial,hc a (List.mem_of_getElem? ha)⟩
theorem WC.fits {g:Gh} {H:Heap} {w:World} (h:WC g H w) {b:Oid} {s n m:Nat} (hb:find H b = some (.buf s n)) {c cap:Nat} (hc:g.bufc b = some (c,cap))
    {vs:Array Value} {e:TypeId} (hw:w.heap[c]? = some (.cells vs e (0,0))) (hsz:cap * s ≤ vs.size) (hm:n + m ≤ cap) (hg:∀ o,n * s ≤ o→g.Γ c o = nob)
    (cs:List AV) (us:List Value) (hl:cs.length = m * s) (hv:VL g cs us) (hs:stillL cs = true) :
    WC ((g.more c (n * s) cs).heap (ins b (.buf s (n + m)) H)) (ins b (.buf s (n + m)) H) (w.setRow c (vs.toList.take (n * s) ++ us ++ vs.toList.drop (n * s + us.length)).toArray) ∧
    Ctx w g H ((g.more c (n * s) cs).heap (ins b (.buf s (n + m)) H)) (ins b (.buf s (n + m)) H) (w.setRow c (vs.toList.take (n * s) ++ us ++ vs.toList.drop (n * s + us.length)).toArray) ∧
    Keep (fun _=>False) g ((g.more c (n * s) cs).heap (ins b (.buf s (n + m)) H)):=by
  have hlive:Live g H c:=⟨b,_,hb,by simp only [ownOf]; rw [hc]; rfl⟩
  have hul:us.length = m * s:=by rw [hv.length,hl]
  have hms:(n + m) * s ≤ cap * s:=Nat.mul_le_mul_right s hm
  rw [Nat.add_mul] at hms
  have hk:Keep (fun _=>False) g ((g.more c (n * s) cs).heap (ins b (.buf s (n + m)) H)):=by
    have h0:=Keep.more hg cs (fun _=>False)
    refine ⟨h0.gam,h0.mu,fun x _=>?_⟩
    by_cases hx:b = x
    · subst hx
      refine ⟨fun s' n' hn=>?_⟩
      simp only [Gh.heap,tipOf_ins,if_true] at hn
      cases hn
      exact ⟨s,n,by rw [h.tip]; simp [tipOf,hb],by omega,fun _=>rfl⟩
    · refine .same ?_ rfl
      simp only [Gh.heap,tipOf_ins,if_neg hx]
      rw [h.tip]
  have hne:∀ x ob c',find H x = some ob→x ≠ b→blockOf g x ob = some c'→c' ≠ c:=by
    rintro x ob c' h1 h2 h3 rfl
    exact h2 (h.inj x b _ _ c' h1 hb h3 (by simp only [blockOf]; rw [hc]; rfl))
  have hnl:=still_nil hs
  have hrow:∀ o,(vs.toList.take (n * s) ++ us ++ vs.toList.drop (n * s + us.length)).toArray[o]? = if o < n * s then vs[o]? else if o < n * s + m * s then us[o - n * s]? else vs[o]?:=by
    intro o
    have hmin:min (n * s) vs.size = n * s:=by omega
    simp only [List.getElem?_toArray,List.getElem?_append,List.length_append,List.length_take,Array.length_toList,hmin,hul]
    split
    · split
      · rename_i h1; rw [List.getElem?_take,if_pos h1,Array.getElem?_toList]
      · rfl
    · rename_i h1
      rw [if_neg (by omega),List.getElem?_drop,Array.getElem?_toList]
      congr 1; omega
  refine ⟨⟨fun x=>rfl,fun c' o a ha=>?_,fun x ob hx=>?_,fun x x' ob ob' c' h1 h2 h3 h4=>?_⟩,
    ⟨by rw [setRow_size]; exact Nat.le_refl _,fun c' _ hn=>⟨setRow_other _ _ _ _ (fun e'=>hn (e' ▸ hlive)),fun o=>?_⟩,hk.gam,fun c' hl=>?_,fun c' hl=>?_,rfl,rfl,rfl⟩,hk⟩
  · simp only [Gh.heap,Gh.more] at ha
    split at ha
    · rename_i hh
      obtain ⟨rfl,h1,h2⟩:=hh
      obtain ⟨v,k1,k2⟩:=hv.get _ a ha
      obtain ⟨n1,n2,n3⟩:=hnl _ a ha
      refine .inl ⟨n3,v,?_,hk.V (Off.none _) k2,n1,n2⟩
      rw [cell_of_block (setRow_heap w c' vs _ e (0,0) hw),hrow,if_neg (by omega),if_pos (by omega)]
      exact k1
    · rename_i hh
      by_cases hcc:c' = c
      · subst hcc
        have ho:o < n * s:=by
          rcases Nat.lt_or_ge o (n * s) with h1 | h1
          · exact h1
          · rw [hg o h1] at ha; cases ha
        refine (h.pin c' o a ha).mono (fun a v r1 r2 hv=>hk.V (Off.of_nil r1 r2) hv) (fun _ v k1=>?_) fun l k hl=>?_
        · rw [cell_of_block (setRow_heap w c' vs _ e (0,0) hw),hrow,if_pos ho]
          rw [cell_of_block hw] at k1; exact k1
        · rw [hw] at hl; cases hl
      · exact hk.pinOk (h.pin c' o a ha) (setRow_other w c c' _ hcc)
  · rw [find_ins] at hx
    split at hx
    · rename_i e'; subst e'; cases hx
      intro c2 cap2 hcb
      have:g.bufc b = some (c2,cap2):=hcb
      rw [hc] at this; cases this
      refine ⟨_,e,setRow_heap w c vs _ e (0,0) hw,?_,hm,fun o ho=>?_⟩
      · simp [hul]; omega
      · rw [Nat.add_mul] at ho
        simp only [Gh.heap,Gh.more]
        rw [if_neg (by omega)]; exact hg o (by omega)
    · rename_i hxb
      have h1:=h.objs x ob hx
      cases ob with
      | cells wr' cs2=>
        obtain ⟨c2,k1,k2,k4⟩:=h1
        have:c2 ≠ c:=hne x _ c2 hx (Ne.symm hxb) k1
        exact ⟨c2,k1,hk.body (OffL.none _) (setRow_other _ _ _ _ this) k2,fun o=>by simp only [Gh.heap,Gh.more]; rw [if_neg (by omega)]; exact k4 o⟩
      | buf s2 n2=>
        intro c2 cap2 hcb
        have hcb':g.bufc x = some (c2,cap2):=hcb
        obtain ⟨vs2,e2,k2,k3,k5,k4⟩:=h1 c2 cap2 hcb'
        have:c2 ≠ c:=hne x _ c2 hx (Ne.symm hxb) (by simp only [blockOf]; rw [hcb']; rfl)
        exact ⟨vs2,e2,by rw [setRow_other _ _ _ _ this]; exact k2,k3,k5,fun o ho=>by simp only [Gh.heap,Gh.more]; rw [if_neg (by omega)]; exact k4 o ho⟩
  · have cases_:∀ y oy,find (ins b (.buf s (n + m)) H) y = some oy→blockOf ((g.more c (n * s) cs).heap (ins b (.buf s (n + m)) H)) y oy = some c'→∃ oy',find H y = some oy'∧blockOf g y oy' = some c':=by
      intro y oy hy hby
      rw [find_ins] at hy
      split at hy
      · rename_i e'; subst e'; cases hy; exact ⟨_,hb,hby⟩
      · exact ⟨oy,hy,by cases oy <;> exact hby⟩
    obtain ⟨o1,k1,k2⟩:=cases_ x ob h1 h3
    obtain ⟨o2,k3,k4⟩:=cases_ x' ob' h2 h4
    exact h.inj x x' o1 o2 c' k1 k3 k2 k4
  · simp only [Gh.heap,Gh.more]
    rw [if_neg]
    rintro ⟨rfl,_⟩; exact hn hlive
  · obtain ⟨x,ob,h1,h2⟩:=hl
    rw [find_ins] at h1
    split at h1
    · rename_i e'; subst e'; cases h1; exact .inl ⟨b,_,hb,h2⟩
    · exact .inl ⟨x,ob,h1,by cases ob <;> exact h2⟩
  · obtain ⟨x,ob,h1,h2⟩:=hl
    rw [find_ins] at h1
    split at h1
    · rename_i e'; subst e'; cases h1; exact .inl ⟨b,_,hb,h2⟩
    · exact .inl ⟨x,ob,h1,by cases ob <;> exact h2⟩
def Gh.moved (g:Gh) (b:Oid) (p:Option (Nat × Nat)) (H:Heap):Gh:={ g with bufc:=fun x=>if x = b then p else g.bufc x,tip:=tipOf H }
theorem WC.moved {F:Oid→Prop} {g:Gh} {H:Heap} {w:World} (h:WC g H w) (b:Oid) (s n:Nat) (p:Option (Nat × Nat)) (hob:∀ ob,find H b = some ob→∃ s' n',ob = .buf s' n')
    (hp:∀ c cap,p = some (c,cap)→¬ Used g H c∧∃ vs e,w.heap[c]? = some (.cells vs e (0,0))∧cap * s ≤ vs.size∧n ≤ cap∧∀ o,n * s ≤ o→g.Γ c o = nob)
    (hk:Keep (fun x=>x = b) g (g.moved b p (ins b (.buf s n) H))→Keep F g (g.moved b p (ins b (.buf s n) H)))
    (hF:∀ x ob,x ≠ b→find H x = some ob→∀ y ∈ ob.refs ++ ob.toks,¬ F y) :
    Keep F g (g.moved b p (ins b (.buf s n) H))∧WC (g.moved b p (ins b (.buf s n) H)) (ins b (.buf s n) H) w:=by
  have hk':Keep F g (g.moved b p (ins b (.buf s n) H)):=hk (by
    refine ⟨fun _ _ _ h=>h,fun _ _ _ h=>h,fun x hx=>.same ?_ ?_⟩
    · simp only [Gh.moved,tipOf_ins]; rw [if_neg (Ne.symm hx),h.tip]
    · simp only [Gh.moved]; rw [if_neg hx])
  refine ⟨hk',fun x=>rfl,fun c o a ha=>?_,fun x ob hx=>?_,fun x x' ob ob' c h1 h2 h3 h4=>?_⟩
  · exact hk'.pinOk (h.pin c o a ha) rfl
  · rw [find_ins] at hx
    split at hx
    · rename_i e'; subst e'; cases hx
      intro c cap hcb
      simp only [Gh.moved,if_true] at hcb
      exact (hp c cap hcb).2
    · rename_i hxb
      have h1:=h.objs x ob hx
      have h2:=hF x ob (Ne.symm hxb) hx
      cases ob with
      | cells wr' cs2=>
        obtain ⟨c2,k1,k2,k4⟩:=h1
        exact ⟨c2,k1,hk'.body ⟨fun y hy=>h2 y (by simp [Ob.refs,hy]),fun y hy=>h2 y (by simp [Ob.toks,hy])⟩ rfl k2,k4⟩
      | buf s2 n2=>
        intro c2 cap2 hcb
        simp only [Gh.moved] at hcb
        rw [if_neg (Ne.symm hxb)] at hcb
        exact h1 c2 cap2 hcb
  · have live_:∀ y oy,y ≠ b→find (ins b (.buf s n) H) y = some oy→blockOf (g.moved b p (ins b (.buf s n) H)) y oy = some c→find H y = some oy∧blockOf g y oy = some c:=by
      intro y oy hyb hy hby
      rw [find_ins,if_neg (Ne.symm hyb)] at hy
      refine ⟨hy,?_⟩
      cases oy <;> simp only [blockOf,Gh.moved] at hby ⊢ <;> (try rw [if_neg hyb] at hby) <;> exact hby
    have own_:∀ oy,find (ins b (.buf s n) H) b = some oy→blockOf (g.moved b p (ins b (.buf s n) H)) b oy = some c→∃ cap,p = some (c,cap):=by
      intro oy hy hby
      rw [find_ins,if_pos rfl] at hy
      cases hy
      simp only [blockOf,Gh.moved,if_true] at hby
      cases p with
      | none=>cases hby
      | some q=>obtain ⟨c2,cap⟩:=q; simp at hby; exact ⟨cap,by rw [hby]⟩
    by_cases e1:x = b
    · by_cases e2:x' = b
      · rw [e1,e2]
      · subst e1
        obtain ⟨cap,hpc⟩:=own_ ob h1 h3
        obtain ⟨k1,k2⟩:=live_ x' ob' e2 h2 h4
        exact ((hp c cap hpc).1 ⟨x',ob',k1,k2⟩).elim
    · by_cases e2:x' = b
      · subst e2
        obtain ⟨cap,hpc⟩:=own_ ob' h2 h4
        obtain ⟨k1,k2⟩:=live_ x ob e1 h1 h3
        exact ((hp c cap hpc).1 ⟨x,ob,k1,k2⟩).elim
      · obtain ⟨k1,k2⟩:=live_ x ob e1 h1 h3
        obtain ⟨k3,k4⟩:=live_ x' ob' e2 h2 h4
        exact h.inj x x' ob ob' c k1 k3 k2 k4
def NoRoot (d:Nat) (H:Heap):Prop:=∀ b,rooted d b = true→find H b = none
def ClearH (d:Nat) (H:Heap):Prop:=NoRoot d H∧∀ x ob,find H x = some ob→∀ y ∈ ob.refs ++ ob.toks,rooted d y = false
theorem rooted_loc (d:Nat):rooted d (.loc d) = true:=by simp [rooted,Oid.root]
theorem rooted_cl (d:Nat) (o:Oid) (j:Nat):rooted d (.cl o j) = rooted d o:=rfl
def Gh.made (g:Gh) (d c:Nat) (H:Heap):Gh:={ g with μ:=fun x=>if x = .loc d then some c else g.μ x,tip:=tipOf H,bufc:=fun x=>if rooted d x then none else g.bufc x }
theorem find_insAll_cl {d:Nat} {ts:List (Oid × Ob)} (hts:∀ x ∈ ts,∃ j s,x = (.cl (.loc d) j,.buf s 0)) (H:Heap) (b:Oid):find (insAll H ts) b = find H b ∨ ∃ j s,b = .cl (.loc d) j∧find (insAll H ts) b = some (.buf s 0):=by
  rw [find_insAll]
  cases hf:find ts b with
  | none=>exact .inl rfl
  | some ob=>
    obtain ⟨j,s,e⟩:=hts _ (find_mem hf)
    cases e
    exact .inr ⟨j,s,rfl,rfl⟩
theorem WC.newOb {g:Gh} {H:Heap} {w:World} (h:WC g H w) {d:Nat} (hd:ClearH d H) (f:Fl) (cs:List AV) (o:Obj) (ts:List (Oid × Ob))
    (hts:∀ x ∈ ts,∃ j s,x = (.cl (.loc d) j,.buf s 0))
    (hv:∀ g',Keep (fun x=>rooted d x = true) g g'→(∀ x,g'.tip x = tipOf (insAll H ((.loc d,.cells f cs) :: ts)) x)→Body g' (w.alloc o) w.heap.size f cs) :
    ∃ g',g'.μ (.loc d) = some w.heap.size∧WC g' (insAll H ((.loc d,.cells f cs) :: ts)) (w.alloc o) ∧
      Keep (fun x=>rooted d x = true) g g'∧Ctx w g H g' (insAll H ((.loc d,.cells f cs) :: ts)) (w.alloc o):=by
  obtain ⟨hnr,hsp⟩:=hd
  let H':=insAll H ((.loc d,.cells f cs) :: ts)
  let g':=g.made d w.heap.size H'
  have hfind:∀ b,(b = .loc d∧find H' b = some (.cells f cs)) ∨ (∃ j s,b = .cl (.loc d) j∧find H' b = some (.buf s 0)) ∨ (b ≠ .loc d∧find H' b = find H b):=by
    intro b
    simp only [H',insAll,find_ins]
    by_cases e:b = .loc d
    · exact .inl ⟨e,by rw [if_pos e.symm]⟩
    · rw [if_neg (Ne.symm e)]
      rcases find_insAll_cl hts H b with h1 | ⟨j,s,h1,h2⟩
      · exact .inr (.inr ⟨e,h1⟩)
      · exact .inr (.inl ⟨j,s,h1,h2⟩)
  have hk:Keep (fun x=>rooted d x = true) g g':=by
    refine ⟨fun _ _ _ h=>h,fun b hb c hc=>?_,fun b hb=>.same ?_ ?_⟩
    · simp only [g',Gh.made]; rw [if_neg]; exact hc
      rintro rfl; exact hb (rooted_loc d)
    · simp only [g',Gh.made,h.tip,tipOf]
      rcases hfind b with ⟨rfl,_⟩ | ⟨j,s,rfl,_⟩ | ⟨_,h2⟩
      · exact (hb (rooted_loc d)).elim
      · exact (hb (by rw [rooted_cl]; exact rooted_loc d)).elim
      · rw [h2]
    · simp only [g',Gh.made]; rw [if_neg hb]
  have hvg:Body g' (w.alloc o) w.heap.size f cs:=hv g' hk (fun _=>rfl)
  have hold:∀ b ob,find H' b = some ob→find H b = some ob→∀ c,blockOf g' b ob = some c→blockOf g b ob = some c:=by
    intro b ob h1 h2 c h3
    have hnb:¬ rooted d b = true:=fun hr=>by rw [hnr b hr] at h2; cases h2
    cases ob <;> simp only [blockOf,g',Gh.made] at h3 ⊢
    · rw [if_neg] at h3; exact h3
      rintro rfl; exact hnb (rooted_loc d)
    · rw [if_neg hnb] at h3; exact h3
  have hbuf0:∀ j,g'.bufc (.cl (.loc d) j) = none:=fun j=>by
    simp only [g',Gh.made]; rw [if_pos (by rw [rooted_cl]; exact rooted_loc d)]
  have hmuc:g'.μ (.loc d) = some w.heap.size:=by simp [g',Gh.made]
  refine ⟨g',hmuc,⟨fun _=>rfl,fun c o a ha=>?_,fun b ob hb=>?_,fun b b' ob ob' c h1 h2 h3 h4=>?_⟩,hk,
    ⟨by simp,fun c hc _=>⟨heap_alloc_old _ _ hc,fun _=>rfl⟩,fun _ _ _ h=>h,fun c hl=>?_,fun c hl=>?_,rfl,rfl,rfl⟩⟩
  · exact hk.pinOk (h.pin c _ a ha) (heap_alloc_old _ _ (h.lt ha))
  · rcases hfind b with ⟨rfl,h2⟩ | ⟨j,s,rfl,h2⟩ | ⟨_,h2⟩
    · rw [show find (insAll H ((.loc d,.cells f cs) :: ts)) (.loc d) = some (.cells f cs) from h2] at hb
      cases hb
      exact ⟨w.heap.size,hmuc,hvg,fun o=>h.noΓ (Nat.le_refl _) o⟩
    · rw [show find (insAll H ((.loc d,.cells f cs) :: ts)) (.cl (.loc d) j) = some (.buf s 0) from h2] at hb
      cases hb
      intro c cap hcb
      rw [hbuf0] at hcb; cases hcb
    · rw [show find (insAll H ((.loc d,.cells f cs) :: ts)) b = find H b from h2] at hb
      have hnb:¬ rooted d b = true:=fun hr=>by rw [hnr b hr] at hb; cases hb
      have h3:=h.objs b ob hb
      have h4:=hsp b ob hb
      cases ob with
      | cells wr' cs2=>
        obtain ⟨c2,k1,k2,k4⟩:=h3
        exact ⟨c2,hk.mu b hnb c2 k1,
          hk.body ⟨fun y hy=>by show ¬ rooted d y = true; rw [h4 y (by simp [Ob.refs,hy])]; simp,fun y hy=>by show ¬ rooted d y = true; rw [h4 y (by simp [Ob.toks,hy])]; simp⟩ (heap_alloc_old _ _ k2.lt) k2,k4⟩
      | buf s2 n2=>
        intro c2 cap2 hcb
        simp only [g',Gh.made] at hcb
        rw [if_neg hnb] at hcb
        obtain ⟨vs2,e2,k2,k3⟩:=h3 c2 cap2 hcb
        have hlt:=(Array.getElem?_eq_some_iff.1 k2).1
        exact ⟨vs2,e2,by rw [heap_alloc_old _ _ hlt]; exact k2,k3⟩
  · have which:∀ x ox,find H' x = some ox→blockOf g' x ox = some c→(x = .loc d∧c = w.heap.size) ∨ (find H x = some ox∧blockOf g x ox = some c):=by
      intro x ox hx hbx
      rcases hfind x with ⟨rfl,h2⟩ | ⟨j,s,rfl,h2⟩ | ⟨_,h2⟩
      · rw [h2] at hx; cases hx
        simp only [blockOf] at hbx
        rw [hmuc] at hbx; cases hbx
        exact .inl ⟨rfl,rfl⟩
      · rw [h2] at hx; cases hx
        simp only [blockOf] at hbx
        rw [hbuf0] at hbx; cases hbx
      · rw [h2] at hx
        exact .inr ⟨hx,hold x ox (by rw [h2]; exact hx) hx c hbx⟩
    rcases which b ob h1 h3 with ⟨rfl,e1⟩ | ⟨k1,k2⟩
    · rcases which b' ob' h2 h4 with ⟨rfl,_⟩ | ⟨k3,k4⟩
      · rfl
      · have:=h.used_lt ⟨b',ob',k3,k4⟩; omega
    · rcases which b' ob' h2 h4 with ⟨rfl,e2⟩ | ⟨k3,k4⟩
      · have:=h.used_lt ⟨b,ob,k1,k2⟩; omega
      · exact h.inj b b' ob ob' c k1 k3 k2 k4
  · obtain ⟨b,ob,h1,h2⟩:=hl
    rcases hfind b with ⟨rfl,h3⟩ | ⟨j,s,rfl,h3⟩ | ⟨_,h3⟩
    · rw [show find (insAll H ((.loc d,.cells f cs) :: ts)) (.loc d) = some (.cells f cs) from h3] at h1
      cases h1
      have h2:=ownOf_block h2
      simp only [blockOf] at h2
      rw [hmuc] at h2; cases h2; exact .inr (Nat.le_refl _)
    · rw [show find (insAll H ((.loc d,.cells f cs) :: ts)) (.cl (.loc d) j) = some (.buf s 0) from h3] at h1
      cases h1
      simp only [ownOf] at h2
      rw [hbuf0] at h2; cases h2
    · rw [show find (insAll H ((.loc d,.cells f cs) :: ts)) b = find H b from h3] at h1
      refine .inl ⟨b,ob,h1,?_⟩
      have h5:=hold b ob (by rw [h3]; exact h1) h1 c (ownOf_block h2)
      cases ob with
      | cells wr cs2=>cases wr <;> first | exact h5 | cases h2
      | buf s n=>exact h5
  · obtain ⟨b,ob,h1,h2⟩:=hl
    rcases hfind b with ⟨rfl,h3⟩ | ⟨j,s,rfl,h3⟩ | ⟨_,h3⟩
    · rw [show find (insAll H ((.loc d,.cells f cs) :: ts)) (.loc d) = some (.cells f cs) from h3] at h1
      cases h1
      simp only [blockOf] at h2
      rw [hmuc] at h2; cases h2; exact .inr (Nat.le_refl _)
    · rw [show find (insAll H ((.loc d,.cells f cs) :: ts)) (.cl (.loc d) j) = some (.buf s 0) from h3] at h1
      cases h1
      simp only [blockOf] at h2
      rw [hbuf0] at h2; cases h2
    · rw [show find (insAll H ((.loc d,.cells f cs) :: ts)) b = find H b from h3] at h1
      exact .inl ⟨b,ob,h1,hold b ob (by rw [h3]; exact h1) h1 c h2⟩
theorem WC.newObj {g:Gh} {H:Heap} {w:World} (h:WC g H w) {d:Nat} (hd:ClearH d H) (cs:List AV) (vs:Array Value) (e:TypeId) (ts:List (Oid × Ob))
    (hts:∀ x ∈ ts,∃ j s,x = (.cl (.loc d) j,.buf s 0))
    (hv:∀ g',Keep (fun x=>rooted d x = true) g g'→(∀ x,g'.tip x = tipOf (insAll H ((.loc d,.cells .rw cs) :: ts)) x)→VL g' cs vs.toList) :
    ∃ g',V g' (.ptr (.loc d) 0) (.pointer (some ⟨w.heap.size,0,none⟩))∧WC g' (insAll H ((.loc d,.cells .rw cs) :: ts)) (w.alloc (.cells vs e)) ∧
      Keep (fun x=>rooted d x = true) g g'∧Ctx w g H g' (insAll H ((.loc d,.cells .rw cs) :: ts)) (w.alloc (.cells vs e)):=by
  obtain ⟨g',h1,h2⟩:=h.newOb hd .rw cs (.cells vs e) ts hts fun g' hk ht=>⟨vs,e,heap_alloc_new _ _,hv g' hk ht⟩
  exact ⟨g',⟨_,h1,rfl⟩,h2⟩
end Go.Proofs.YtjojaiomgdjhfaaGreatDoor.AE
namespace Go.Proofs.YtjojaiomgdjhfaaGreatDoor.AE
open Go
def TbOk (P:Program) (tb:List TI):Prop:=∀ t ti,tb[t]? = some ti→mkTI P t = some ti
theorem run_bind2 {α β:Type} (P:Program) (x:Sem α) (f:α→Sem β) (w:World):(x >>= f).run P w = (x.run P w).andThen fun a w'=>(f a).run P w':=Sem.run_bind' P x f w
theorem run_pure2 {α:Type} (P:Program) (x:α) (w:World):(pure x:Sem α).run P w = .ok x w:=rfl
structure TyFacts (P:Program) (t:TypeId) (ti:TI):Prop where
  ex:∃ i d,P.info? t = some i∧P.underlying t = some d∧ti.size = i.size∧ti.agg = aggD d∧ti.bytes = i.bytes∧ti.zero = zeroCellsOf i.zero∧ti.desc = ofDesc d
  eq:∀ d,P.underlying t = some d→ti.eqOk = eqOkD P t d
  zero:∀ i,P.info? t = some i→∀ z,i.zero = some z→if ti.agg = true then ∃ cs,z = .agg cs else z.cells = #[z]
theorem TbOk.facts {P:Program} {tb:List TI} (h:TbOk P tb) {t:TypeId} {ti:TI} (ht:tb[t]? = some ti):TyFacts P t ti:=by
  have:=h t ti ht
  unfold mkTI at this
  split at this
  · rename_i i d h1 h2
    split at this
    · cases this
    rename_i hz
    cases this
    refine ⟨⟨i,d,h1,h2,rfl,rfl,rfl,rfl,rfl⟩,fun d' hd'=>by rw [h2] at hd'; cases hd'; rfl,fun i' hi' z hiz=>?_⟩
    rw [h1] at hi'; cases hi'
    rw [hiz] at hz
    simp only [Bool.not_eq_true',Bool.not_eq_false] at hz
    split
    · rename_i ha
      have ha:aggD d = true:=ha
      cases z <;> first | exact ⟨_,rfl⟩ | (simp only [zeroOk] at hz; rw [ha] at hz; cases hz)
    · rename_i ha
      cases z <;> first | rfl | (simp only [zeroOk] at hz; exact (ha hz).elim)
  · cases this
theorem run_typeInfo {P:Program} {t:TypeId} {i:TypeInfo} (h:P.info? t = some i) (w:World):(typeInfo t).run P w = .ok i w:=by
  unfold typeInfo
  rw [run_bind2]
  show (match P.info? t with | some i=>(pure i:Sem TypeInfo) | none=>stuck "no such type").run P w = _
  rw [h]; rfl
theorem run_under {P:Program} {t:TypeId} {d:TypeDesc} (h:P.underlying t = some d) (w:World):(underlying t).run P w = .ok d w:=by
  unfold underlying
  rw [run_bind2]
  show (match P.underlying t with | some d=>(pure d:Sem TypeDesc) | none=>stuck "no such type").run P w = _
  rw [h]; rfl
theorem run_sizeOf2 {P:Program} {t:TypeId} {i:TypeInfo} (h:P.info? t = some i) (w:World):(sizeOf t).run P w = .ok i.size w:=by
  unfold Go.sizeOf
  rw [run_bind2,run_typeInfo h]; rfl
theorem run_isAgg {P:Program} {t:TypeId} {d:TypeDesc} (h:P.underlying t = some d) (w:World):(isAgg t).run P w = .ok (aggD d) w:=by
  unfold isAgg
  rw [run_bind2,run_under h]
  cases d <;> rfl
theorem run_zero {P:Program} {t:TypeId} {i:TypeInfo} {z:Value} (h:P.info? t = some i) (hz:i.zero = some z) (w:World):(zeroValue t).run P w = .ok z w:=by
  unfold zeroValue
  rw [run_bind2,run_typeInfo h]
  show (match i.zero with | some v=>(pure v:Sem Value) | none=>_).run P w = _
  rw [hz]; rfl
theorem TyFacts.size {P:Program} {t:TypeId} {ti:TI} (h:TyFacts P t ti) (w:World):(sizeOf t).run P w = .ok ti.size w:=by
  obtain ⟨i,d,h1,h2,h3,_⟩:=h.ex
  rw [run_sizeOf2 h1,h3]
theorem TyFacts.isAgg {P:Program} {t:TypeId} {ti:TI} (h:TyFacts P t ti) (w:World):(isAgg t).run P w = .ok ti.agg w:=by
  obtain ⟨i,d,h1,h2,_,h3,_⟩:=h.ex
  rw [run_isAgg h2,h3]
theorem TyFacts.under {P:Program} {t:TypeId} {ti:TI} (h:TyFacts P t ti):∃ d,P.underlying t = some d∧ofDesc d = ti.desc:=by
  obtain ⟨i,d,h1,h2,_,_,_,_,h3⟩:=h.ex
  exact ⟨d,h2,h3.symm⟩
theorem descOf_some {P:Program} {tb:List TI} (h:TbOk P tb) {t:TypeId} {d:TD} (hd:descOf tb t = some d):∃ ti,tb[t]? = some ti∧ti.desc = d∧∃ d',P.underlying t = some d'∧ofDesc d' = d:=by
  unfold descOf at hd
  split at hd
  · rename_i ti ht
    cases hd
    exact ⟨ti,ht,rfl,(h.facts ht).under⟩
  · cases hd
theorem tsize_some {P:Program} {tb:List TI} (h:TbOk P tb) {t:TypeId} {n:Nat} (hd:tsize tb t = some n):∃ ti,tb[t]? = some ti∧ti.size = n:=by
  unfold tsize at hd
  split at hd
  · rename_i ti ht
    cases hd
    exact ⟨ti,ht,rfl⟩
  · cases hd
theorem tsize_run {P:Program} {tb:List TI} (h:TbOk P tb) {t:TypeId} {n:Nat} (hd:tsize tb t = some n) (w:World):(sizeOf t).run P w = .ok n w:=by
  obtain ⟨ti,h1,rfl⟩:=tsize_some h hd
  exact (h.facts h1).size w
theorem ofDesc_slice {d:TypeDesc} {e:TypeId} (h:ofDesc d = .slice e):d = .slice e:=by cases d <;> simp_all [ofDesc]
theorem ofDesc_string {d:TypeDesc} (h:ofDesc d = .string):d = .string:=by cases d <;> simp_all [ofDesc]
theorem ofDesc_int {d:TypeDesc} {k:IntKind} (h:ofDesc d = .int k):d = .int k:=by cases d <;> simp_all [ofDesc]
theorem ofDesc_bool {d:TypeDesc} (h:ofDesc d = .bool):d = .bool:=by cases d <;> simp_all [ofDesc]
theorem ofDesc_ptr {d:TypeDesc} {e:TypeId} (h:ofDesc d = .ptr e):d = .pointer e:=by cases d <;> simp_all [ofDesc]
theorem ofDesc_array {d:TypeDesc} {n:Nat} {e:TypeId} (h:ofDesc d = .array n e):d = .array n e:=by cases d <;> simp_all [ofDesc]
theorem ofDesc_map {d:TypeDesc} {k e:TypeId} (h:ofDesc d = .map k e):d = .map k e:=by cases d <;> simp_all [ofDesc]
theorem ofDesc_struct {d:TypeDesc} {l:List (Nat × TypeId)} (h:ofDesc d = .struct l):∃ fs,d = .struct fs∧l = fs.toList.map fun f=>(f.offset,f.type):=by
  cases d <;> simp_all [ofDesc]
theorem ofDesc_fn {d:TypeDesc} (h:ofDesc d = .fn):∃ a b c,d = .func a b c:=by cases d <;> simp_all [ofDesc]
theorem V_ofCell (g:Gh) (v:Value):V g (ofCell v) v:=by
  unfold ofCell
  split <;> first | (simp only [V]; done) | (simp [V]; done) | (simp only [V,VL]; exact ⟨_,_,rfl,rfl,rfl⟩) | trivial
theorem VL_ofCell (g:Gh):∀ vs:List Value,VL g (vs.map ofCell) vs
  | []=>rfl
  | v :: vs=>⟨v,vs,rfl,V_ofCell g v,VL_ofCell g vs⟩
theorem V_ofVal (g:Gh) (v:Value):V g (ofVal v) v:=by
  unfold ofVal
  split
  · exact ⟨_,rfl,VL_ofCell g _⟩
  · exact V_ofCell g v
theorem VL_zero (g:Gh) {i:TypeInfo} {z:Value} (hz:i.zero = some z):VL g (zeroCellsOf i.zero) z.cells.toList:=by
  rw [hz]; exact VL_ofCell g _
end Go.Proofs.YtjojaiomgdjhfaaGreatDoor.AE
namespace Go.Proofs.YtjojaiomgdjhfaaGreatDoor.AE
open Go
structure Step (g:Gh) (H:Heap) (w:World) (F:Oid→Prop) (av:AV) (H':Heap) (v:Value) (g':Gh) (w':World):Prop where
  val:V g' av v
  wc:WC g' H' w'
  keep:Keep F g g'
  ctx:Ctx w g H g' H' w'
def OpGood (P:Program) (g:Gh) (H:Heap) (a:Act) (w:World) (F:Oid→Prop) (o:Oper) (r:OpR):Prop :=
  ∀ (next:Act→World→Prop) (Q:Exit→Act→World→Prop),(∀ v w' g',Step g H w F r.v (insAll H r.ws) v g' w'→next (a.put o.dst v) w')→o.wp P a w next Q
theorem OpGood.value {P:Program} {g:Gh} {H:Heap} {a:Act} {w w':World} {F:Oid→Prop} {o:Oper} {r:OpR} {v:Value} {g':Gh}
    (hr:(execOp a.eval o).run P w = .ok (.value v) w') (hs:Step g H w F r.v (insAll H r.ws) v g' w'):OpGood P g H a w F o r:=by
  intro next Q h
  unfold Oper.wp
  rw [hr]
  exact h v w' g' hs
theorem OpGood.skip {P:Program} {g:Gh} {H:Heap} {a:Act} {w w':World} {F:Oid→Prop} {o:Oper} {r:OpR} {g':Gh}
    (hr:(execOp a.eval o).run P w = .ok .skip w') (hs:Step g H w F r.v (insAll H r.ws) undef g' w'):OpGood P g H a w F o r:=by
  intro next Q h
  unfold Oper.wp
  rw [hr]
  exact h _ w' g' hs
theorem OpGood.pure {P:Program} {g:Gh} {H:Heap} {a:Act} {w:World} {F:Oid→Prop} {o:Oper} {av:AV} {v:Value} {rd:List Oid} (hw:WC g H w)
    (hr:(execOp a.eval o).run P w = .ok (.value v) w) (hv:V g av v):OpGood P g H a w F o { v:=av,rd } :=
  OpGood.value hr ⟨hv,hw,Keep.refl _ _,Ctx.refl _ _ _⟩
def vOf (s:Sem Value):Sem Next:=do Pure.pure (Next.value (← s))
theorem run_v {P:Program} {s:Sem Value} {w w':World} {v:Value} (h:s.run P w = .ok v w'):(vOf s).run P w = .ok (.value v) w':=by
  unfold vOf
  rw [run_bind2,h]; rfl
theorem V.int {g:Gh} {k:IntKind} {n:Int} {v:Value} (h:V g (.int k n) v):v = .int k n:=h
theorem V.bool {g:Gh} {b:Bool} {v:Value} (h:V g (.bool b) v):v = .bool b:=h
theorem V.str {g:Gh} {s:List UInt8} {v:Value} (h:V g (.str s) v):v = .string ⟨s.toArray⟩:=h
theorem V.agg {g:Gh} {cs:List AV} {v:Value} (h:V g (.agg cs) v):∃ x,v = .agg x∧VL g cs x.toList:=h
theorem run_intBits {P:Program} {g:Gh} {op:BinOp} {k:IntKind} {x y:Int} {r:AV} (h:intBits op k x y = some r) (w:World):∃ v,(Op.intBits op k x y).run P w = .ok v w∧V g r v:=by
  cases op <;> simp only [intBits] at h <;> first | (cases h; done) | (cases h; exact ⟨_,rfl,rfl⟩)
theorem run_intOp {P:Program} {g:Gh} {op:BinOp} {k k':IntKind} {a b:Int} {r:AV} (h:intOp op k a b = some r) (hk:op = .shl ∨ op = .shr ∨ k = k') (t:TypeId) (w:World) :
    ∃ v,(binOp op t (.int k a) (.int k' b)).run P w = .ok v w∧V g r v:=by
  by_cases hs:op = .shl ∨ op = .shr
  · rcases hs with rfl | rfl
    · simp only [intOp] at h
      split at h
      · cases h
      · rename_i hb
        cases h
        refine ⟨_,?_,rfl⟩
        simp only [binOp,Op.shift,if_neg hb]; rfl
    · simp only [intOp] at h
      split at h
      · cases h
      · rename_i hb
        cases h
        refine ⟨_,?_,rfl⟩
        simp only [binOp,Op.shift,if_neg hb]; rfl
  · have hk':k = k':=by
      rcases hk with h1 | h1 | h1
      · exact (hs (.inl h1)).elim
      · exact (hs (.inr h1)).elim
      · exact h1
    subst hk'
    cases op <;> simp only [intOp] at h <;> (try (split at h)) <;> first
      | (cases h; done)
      | (exact (hs (.inl rfl)).elim)
      | (exact (hs (.inr rfl)).elim)
      | (cases h; refine ⟨_,?_,rfl⟩; simp only [binOp]; rfl)
      | (cases h; refine ⟨_,?_,rfl⟩; simp only [binOp,Op.intDiv,if_neg ‹_›,ne_eq,not_true_eq_false,if_false]; rfl)
      | (obtain ⟨v,h1,h2⟩:=run_intBits (P:=P) (g:=g) h w; exact ⟨v,by simp only [binOp,ne_eq,not_true_eq_false,if_false]; exact h1,h2⟩)
theorem toList_mk (s:List UInt8):(⟨s.toArray⟩:ByteArray).toList = s:=by
  rw [Lib.toList_data]
theorem size_mk (s:List UInt8):(⟨s.toArray⟩:ByteArray).size = s.length:=by simp [ByteArray.size]
theorem append_mk (x y:List UInt8):(⟨x.toArray⟩:ByteArray) ++ ⟨y.toArray⟩ = ⟨(x ++ y).toArray⟩:=by
  apply ByteArray.ext
  apply Array.ext'
  simp [Joins.data_append]
theorem beq_mk (a b:List UInt8):((⟨a.toArray⟩:ByteArray) == ⟨b.toArray⟩) = (a == b):=by
  show (a.toArray == b.toArray) = _
  simp
theorem run_strOp {P:Program} {g:Gh} {op:BinOp} {x y:List UInt8} {r:AV} (h:strOp op x y = some r) (t:TypeId) (w:World) :
    ∃ v,(binOp op t (.string ⟨x.toArray⟩) (.string ⟨y.toArray⟩)).run P w = .ok v w∧V g r v:=by
  cases op <;> simp only [strOp] at h <;> (try (split at h)) <;> first
    | (cases h; done)
    | (cases h; refine ⟨_,?_,rfl⟩; simp only [binOp,Op.stringOp,toList_mk,size_mk]; first | rfl | (rw [if_neg (by simp only [IntKind.max,IntKind.signed,IntKind.bits]; omega),append_mk]; rfl))
theorem run_evEq {P:Program} {tb:List TI} (hP:TbOk P tb) {g:Gh} {w:World}:∀ {d:Nat} {t:TypeId} {x y:AV} {r:Bool} (h:evEq tb d t x y = some r) {vx vy:Value},V g x vx→V g y vy→∀ n,d ≤ n + 1 →
    (Op.equalIn (n + 1) t vx vy).run P w = .ok r w
  | 0,_,_,_,_,h,_,_,_,_,_,_=>by simp [evEq] at h
  | d + 1,t,x,y,r,h,vx,vy,hx,hy,n,hn0=>by
    simp only [evEq] at h
    split at h
    case h_1 a b hd=>
      cases h; simp only [V] at hx hy; subst hx hy
      obtain ⟨_,_,_,d',h1,h2⟩:=descOf_some hP hd
      cases ofDesc_bool h2
      simp only [Op.equalIn,run_bind2,run_under h1]; rfl
    case h_2 k a k' b hd=>
      split at h
      · cases h; rename_i hk; subst hk; simp only [V] at hx hy; subst hx hy
        obtain ⟨_,_,_,d',h1,h2⟩:=descOf_some hP hd
        cases ofDesc_int h2
        simp only [Op.equalIn,run_bind2,run_under h1,Result.andThen_ok,if_true]; rfl
      · cases h
    case h_3 a b hd=>
      cases h; simp only [V] at hx hy; subst hx hy
      obtain ⟨_,_,_,d',h1,h2⟩:=descOf_some hP hd
      cases ofDesc_string h2
      simp only [Op.equalIn,run_bind2,run_under h1,Result.andThen_ok,run_pure2]
      rw [beq_mk]
    case h_4 hd=>
      cases h; simp only [V] at hx hy; subst hx hy
      obtain ⟨_,_,_,d',h1,h2⟩:=descOf_some hP hd
      cases ofDesc_ptr h2
      simp only [Op.equalIn,run_bind2,run_under h1]; rfl
    case h_5 hd=>
      cases h; simp only [V] at hx hy; subst hx; obtain ⟨c,_,rfl⟩:=hy
      obtain ⟨_,_,_,d',h1,h2⟩:=descOf_some hP hd
      cases ofDesc_ptr h2
      simp only [Op.equalIn,run_bind2,run_under h1]; rfl
    case h_6 hd=>
      cases h; simp only [V] at hx hy; subst hx; obtain ⟨c,o,rfl,_⟩:=hy
      obtain ⟨_,_,_,d',h1,h2⟩:=descOf_some hP hd
      cases ofDesc_ptr h2
      simp only [Op.equalIn,run_bind2,run_under h1]; rfl
    case h_7 hd=>
      cases h; simp only [V] at hx hy; subst hy; obtain ⟨c,_,rfl⟩:=hx
      obtain ⟨_,_,_,d',h1,h2⟩:=descOf_some hP hd
      cases ofDesc_ptr h2
      simp only [Op.equalIn,run_bind2,run_under h1]; rfl
    case h_8 hd=>
      cases h; simp only [V] at hx hy; subst hy; obtain ⟨c,o,rfl,_⟩:=hx
      obtain ⟨_,_,_,d',h1,h2⟩:=descOf_some hP hd
      cases ofDesc_ptr h2
      simp only [Op.equalIn,run_bind2,run_under h1]; rfl
    case h_9 hd=>
      cases h; simp only [V] at hx hy; subst hx hy
      obtain ⟨_,_,_,d',h1,h2⟩:=descOf_some hP hd
      cases ofDesc_slice h2
      simp only [Op.equalIn,run_bind2,run_under h1]; rfl
    case h_10 hd=>
      cases h; simp only [V] at hx hy; subst hy
      obtain ⟨_,h3⟩ | ⟨c,o,cap,rfl,_⟩:=hx
      · cases h3
      obtain ⟨_,_,_,d',h1,h2⟩:=descOf_some hP hd
      cases ofDesc_slice h2
      simp only [Op.equalIn,run_bind2,run_under h1]; rfl
    case h_11 hd=>
      cases h; simp only [V] at hx hy; subst hx
      obtain ⟨_,h3⟩ | ⟨c,o,cap,rfl,_⟩:=hy
      · cases h3
      obtain ⟨_,_,_,d',h1,h2⟩:=descOf_some hP hd
      cases ofDesc_slice h2
      simp only [Op.equalIn,run_bind2,run_under h1]; rfl
    case h_12 hd=>
      cases h; simp only [V] at hx hy; subst hy; obtain ⟨c,_,rfl,_⟩:=hx
      obtain ⟨_,_,_,d',h1,h2⟩:=descOf_some hP hd
      cases ofDesc_slice h2
      simp only [Op.equalIn,run_bind2,run_under h1]; rfl
    case h_13 hd=>
      cases h; simp only [V] at hx hy; subst hx hy
      obtain ⟨_,_,_,d',h1,h2⟩:=descOf_some hP hd
      cases ofDesc_map h2
      simp only [Op.equalIn,run_bind2,run_under h1]; rfl
    case h_14 hd=>
      cases h; simp only [V] at hx hy; subst hy; obtain ⟨c,_,rfl⟩:=hx
      obtain ⟨_,_,_,d',h1,h2⟩:=descOf_some hP hd
      cases ofDesc_map h2
      simp only [Op.equalIn,run_bind2,run_under h1]; rfl
    case h_15 hd=>
      cases h; simp only [V] at hx hy; subst hx; obtain ⟨c,_,rfl⟩:=hy
      obtain ⟨_,_,_,d',h1,h2⟩:=descOf_some hP hd
      cases ofDesc_map h2
      simp only [Op.equalIn,run_bind2,run_under h1]; rfl
    case h_16 hd=>
      cases h; simp only [V] at hx hy; subst hx hy
      obtain ⟨_,_,_,d',h1,h2⟩:=descOf_some hP hd
      obtain ⟨_,_,_,rfl⟩:=ofDesc_fn h2
      simp only [Op.equalIn,run_bind2,run_under h1]; rfl
    case h_17 hd=>
      cases h; simp only [V] at hx hy; subst hy; obtain ⟨_,_,rfl,_⟩:=hx
      obtain ⟨_,_,_,d',h1,h2⟩:=descOf_some hP hd
      obtain ⟨_,_,_,rfl⟩:=ofDesc_fn h2
      simp only [Op.equalIn,run_bind2,run_under h1]; rfl
    case h_18 hd=>
      cases h; simp only [V] at hx hy; subst hx; obtain ⟨_,_,rfl,_⟩:=hy
      obtain ⟨_,_,_,d',h1,h2⟩:=descOf_some hP hd
      obtain ⟨_,_,_,rfl⟩:=ofDesc_fn h2
      simp only [Op.equalIn,run_bind2,run_under h1]; rfl
    case h_19 fs xs ys hd=>
      split at h
      · rename_i hok
        simp only [V] at hx hy
        obtain ⟨vxs,rfl,hx⟩:=hx
        obtain ⟨vys,rfl,hy⟩:=hy
        obtain ⟨ti,hti,_,d',h1,h2⟩:=descOf_some hP hd
        obtain ⟨fs',rfl,rfl⟩:=ofDesc_struct h2
        have hek:ti.eqOk = true:=by simpa [eqOkT,hti] using hok
        rw [(hP.facts hti).eq _ h1] at hek
        simp only [eqOkD,Bool.and_eq_true,Bool.not_eq_true',List.all_eq_true] at hek
        obtain ⟨⟨e1,e2⟩,_⟩:=hek
        have hfo:P.fieldsOf t = fs':=by simp [Program.fieldsOf,h1]
        rw [run_equalIn_struct (P:=P) w n t vxs vys (by rw [hfo]; exact h1) e2,hfo]
        have key:∀ (l:List Field) (r:Bool),(∀ f ∈ l,(f.name == "_") = false)→evEqF tb (evEq tb d) xs ys (l.map fun f=>(f.offset,f.type)) = some r→(Op.eqFields n vxs vys l).run P w = .ok r w:=by
          intro l
          induction l with
          | nil=>intro r _ h; simp only [List.map_nil,evEqF] at h; cases h; rfl
          | cons f l ih=>
            intro r hn h
            simp only [List.map_cons,evEqF] at h
            split at h
            · cases h
            · rename_i tf htf
              split at h
              · cases h
              · rename_i hagg
                split at h
                · rename_i a b ha hb
                  split at h
                  · rename_i e e' he he'
                    cases h
                    obtain ⟨va,k1,k2⟩:=hx.get _ _ ha
                    obtain ⟨vb,k3,k4⟩:=hy.get _ _ hb
                    rw [Array.getElem?_toList] at k1 k3
                    have hpart:∀ (us:Array Value) (u:Value),us[f.offset]? = some u→(part f.type us f.offset).run P w = .ok u w:=by
                      intro us u hu
                      unfold part
                      rw [run_bind2,(hP.facts htf).isAgg]
                      simp only [Result.andThen_ok]
                      rw [if_neg (by simpa using hagg),hu]
                      rfl
                    cases n with
                    | zero=>
                      have:d = 0:=by omega
                      subst this
                      simp [evEq] at he
                    | succ n=>
                      have h0:=hn f (by simp)
                      have hn':f.name ≠ "_" := by simpa using h0
                      have h3:=run_evEq hP (w:=w) he k2 k4 n (by omega)
                      rw [Op.eqFields]
                      simp only [if_pos hn',run_bind2,hpart _ _ k1,hpart _ _ k3,h3,Result.andThen_ok]
                      have h4:=ih e' (fun f hf=>hn f (by simp [hf])) he'
                      cases e
                      · rfl
                      · simpa using h4
                  · cases h
                · cases h
        exact key fs'.toList r (fun f hf=>e1 f hf) h
      · cases h
    case h_20=>cases h
def plainEq:Value→Bool
  | .nilIface=>false
  | .agg _=>false
  | _=>true
def EqFine (P:Program) (t:TypeId) (v:Value):Prop:=plainEq v = true ∨ ((∃ xs,v = .agg xs)∧P.eqGuardType P.depth t = false)
theorem run_eqGuard {P:Program} {op:BinOp} {t:TypeId} {x y:Operand} {a b:Value} (h:EqFine P t a) (w:World):(eqGuard op t x y a b).run P w = .ok () w:=by
  rcases h with h | ⟨⟨xs,rfl⟩,h⟩
  · unfold eqGuard
    cases op <;> first
      | rfl
      | (cases a <;> first | (simp [plainEq] at h; done) | rfl)
  · unfold eqGuard
    cases op <;> first
      | rfl
      | (cases b <;> first
          | rfl
          | (simp only [run_bind2]
             show (if (!P.eqGuardType P.depth t) = true then (pure ():Sem Unit) else _).run P w = _
             rw [h]; rfl))
theorem evEq_plain {P:Program} {tb:List TI} (hP:TbOk P tb) {g:Gh} {d:Nat} {t:TypeId} {x y:AV} {r:Bool} (h:evEq tb d t x y = some r) {v:Value} (hv:V g x v):EqFine P t v:=by
  cases d with
  | zero=>simp [evEq] at h
  | succ d=>
    simp only [evEq] at h
    split at h <;> (try simp only [V] at hv) <;> first
      | (cases h; done)
      | (subst hv; exact .inl rfl)
      | (obtain ⟨c,_,rfl⟩:=hv; exact .inl rfl)
      | (obtain ⟨c,o,rfl,_⟩:=hv; exact .inl rfl)
      | (rcases hv with ⟨_,h3⟩ | ⟨c,o,cap,rfl,_⟩ <;> first | (cases h3; done) | exact .inl rfl)
      | (obtain ⟨c,_,rfl,_⟩:=hv; exact .inl rfl)
      | (cases h; done)
      | (rename_i fs xs ys hd
         split at h
         · rename_i hok
           obtain ⟨vxs,rfl,_⟩:=hv
           obtain ⟨ti,hti,_,d',h1,h2⟩:=descOf_some hP hd
           obtain ⟨fs',rfl,rfl⟩:=ofDesc_struct h2
           have hek:ti.eqOk = true:=by simpa [eqOkT,hti] using hok
           rw [(hP.facts hti).eq _ h1] at hek
           simp only [eqOkD,Bool.and_eq_true,Bool.not_eq_true',List.all_eq_true] at hek
           exact .inr ⟨⟨vxs,rfl⟩,hek.2⟩
         · cases h)
theorem binOp_eql {P:Program} {t:TypeId} {a b:Value} (h:∀ k x k' y,¬ (a = .int k x∧b = .int k' y)) (h2:∀ x y,¬ (a = .string x∧b = .string y)) (h3:∀ k x,a ≠ .float k x) (h4:∀ k x y,a ≠ .complex k x y) :
    binOp .eql t a b = (do Pure.pure (.bool (← Op.equal t a b)):Sem Value):=by
  cases a <;> cases b <;> first
    | rfl
    | (exact (h _ _ _ _ ⟨rfl,rfl⟩).elim)
    | (exact (h2 _ _ ⟨rfl,rfl⟩).elim)
    | (exact (h3 _ _ rfl).elim)
    | (exact (h4 _ _ _ rfl).elim)
theorem binOp_neq {P:Program} {t:TypeId} {a b:Value} (h:∀ k x k' y,¬ (a = .int k x∧b = .int k' y)) (h2:∀ x y,¬ (a = .string x∧b = .string y)) (h3:∀ k x,a ≠ .float k x) (h4:∀ k x y,a ≠ .complex k x y) :
    binOp .neq t a b = (do Pure.pure (.bool (!(← Op.equal t a b))):Sem Value):=by
  cases a <;> cases b <;> first
    | rfl
    | (exact (h _ _ _ _ ⟨rfl,rfl⟩).elim)
    | (exact (h2 _ _ ⟨rfl,rfl⟩).elim)
    | (exact (h3 _ _ rfl).elim)
    | (exact (h4 _ _ _ rfl).elim)
theorem V_notInt {g:Gh} {x:AV} {k:IntKind} {n:Int} (h:V g x (.int k n)) (hu:noUndef x = true):x = .int k n:=by
  cases x <;> simp only [V,noUndef] at h hu <;> first
    | (cases hu; done) | (cases h; done) | (cases h; rfl)
    | (rcases h with ⟨_,_,h⟩ | ⟨c,h,_⟩ <;> cases h; done) | (obtain ⟨c,_,h⟩:=h; cases h; done) | (obtain ⟨c,o,h,_⟩:=h; cases h; done) | (obtain ⟨h | ⟨_,_,h,_⟩,_⟩ | ⟨c,o,cap,h,_⟩:=h <;> cases h; done) | (obtain ⟨c,_,h,_⟩:=h; cases h; done) | (obtain ⟨c,h,_⟩:=h; cases h; done)
theorem V_notStr {g:Gh} {x:AV} {s:ByteArray} (h:V g x (.string s)) (hu:noUndef x = true):∃ l,x = .str l:=by
  cases x <;> simp only [V,noUndef] at h hu <;> first
    | (cases hu; done) | (cases h; done) | (exact ⟨_,rfl⟩)
    | (rcases h with ⟨_,_,h⟩ | ⟨c,h,_⟩ <;> cases h; done) | (obtain ⟨c,_,h⟩:=h; cases h; done) | (obtain ⟨c,o,h,_⟩:=h; cases h; done) | (obtain ⟨h | ⟨_,_,h,_⟩,_⟩ | ⟨c,o,cap,h,_⟩:=h <;> cases h; done) | (obtain ⟨c,_,h,_⟩:=h; cases h; done) | (obtain ⟨c,h,_⟩:=h; cases h; done)
theorem V_notFloat {g:Gh} {x:AV} {k:FloatKind} {n:Nat} (h:V g x (.float k n)) (hu:noUndef x = true):False:=by
  cases x <;> simp only [V,noUndef] at h hu <;> first
    | (cases hu; done) | (cases h; done)
    | (rcases h with ⟨_,_,h⟩ | ⟨c,h,_⟩ <;> cases h; done) | (obtain ⟨c,_,h⟩:=h; cases h; done) | (obtain ⟨c,o,h,_⟩:=h; cases h; done) | (obtain ⟨h | ⟨_,_,h,_⟩,_⟩ | ⟨c,o,cap,h,_⟩:=h <;> cases h; done) | (obtain ⟨c,_,h,_⟩:=h; cases h; done) | (obtain ⟨c,h,_⟩:=h; cases h; done)
theorem V_notComplex {g:Gh} {x:AV} {k:FloatKind} {n m:Nat} (h:V g x (.complex k n m)) (hu:noUndef x = true):False:=by
  cases x <;> simp only [V,noUndef] at h hu <;> first
    | (cases hu; done) | (cases h; done)
    | (rcases h with ⟨_,_,h⟩ | ⟨c,h,_⟩ <;> cases h; done) | (obtain ⟨c,_,h⟩:=h; cases h; done) | (obtain ⟨c,o,h,_⟩:=h; cases h; done) | (obtain ⟨h | ⟨_,_,h,_⟩,_⟩ | ⟨c,o,cap,h,_⟩:=h <;> cases h; done) | (obtain ⟨c,_,h,_⟩:=h; cases h; done) | (obtain ⟨c,h,_⟩:=h; cases h; done)
theorem evEq_known {tb:List TI} {d:Nat} {t:TypeId} {x y:AV} {r:Bool} (h:evEq tb d t x y = some r):noUndef x = true∧noUndef y = true:=by
  cases d with
  | zero=>simp [evEq] at h
  | succ d=>
    simp only [evEq] at h
    split at h <;> first | (exact ⟨rfl,rfl⟩) | (cases h; done)
theorem run_evBin {P:Program} {tb:List TI} (hP:TbOk P tb) {g:Gh} {w:World} {op:BinOp} {t:TypeId} {x y r:AV} (h:evBin tb op t x y = some r) {vx vy:Value} (hx:V g x vx) (hy:V g y vy) (ox oy:Operand) :
    ∃ v,(do eqGuard op t ox oy vx vy; binOp op t vx vy:Sem Value).run P w = .ok v w∧V g r v:=by
  have key:EqFine P t vx→(∃ v,(binOp op t vx vy).run P w = .ok v w∧V g r v)→∃ v,(do eqGuard op t ox oy vx vy; binOp op t vx vy:Sem Value).run P w = .ok v w∧V g r v:=by
    rintro h1 ⟨v,h2,h3⟩
    exact ⟨v,by rw [run_bind2,run_eqGuard h1]; exact h2,h3⟩
  unfold evBin at h
  split at h
  · simp only [V] at hx hy; subst hx hy
    refine key (.inl rfl) ?_
    split at h
    · rename_i hs; exact run_intOp h (hs.elim .inl fun e=>.inr (.inl e)) t w
    · split at h
      · rename_i hk; exact run_intOp h (.inr (.inr hk)) t w
      · cases h
  · simp only [V] at hx hy; subst hx hy
    exact key (.inl rfl) (run_strOp h t w)
  · rename_i hni hns
    split at h
    · cases he:evEq tb 100 t x y with
      | none=>rw [he] at h; cases h
      | some b=>
        rw [he] at h; cases h
        obtain ⟨hu1,hu2⟩:=evEq_known he
        refine key (evEq_plain hP he hx) ⟨.bool b,?_,rfl⟩
        rw [binOp_eql (P:=P),run_bind2]
        · unfold Op.equal
          rw [show Op.maxDepth = 9999 + 1 from rfl,run_evEq hP he hx hy _ (by omega)]; rfl
        · rintro k n k' n' ⟨rfl,rfl⟩; exact hni _ _ _ _ (V_notInt hx hu1) (V_notInt hy hu2)
        · rintro a b ⟨rfl,rfl⟩
          obtain ⟨l,rfl⟩:=V_notStr hx hu1
          obtain ⟨l',rfl⟩:=V_notStr hy hu2
          exact hns _ _ rfl rfl
        · rintro k n rfl; exact V_notFloat hx hu1
        · rintro k n m rfl; exact V_notComplex hx hu1
    · cases he:evEq tb 100 t x y with
      | none=>rw [he] at h; cases h
      | some b=>
        rw [he] at h; cases h
        obtain ⟨hu1,hu2⟩:=evEq_known he
        refine key (evEq_plain hP he hx) ⟨.bool (!b),?_,rfl⟩
        rw [binOp_neq (P:=P),run_bind2]
        · unfold Op.equal
          rw [show Op.maxDepth = 9999 + 1 from rfl,run_evEq hP he hx hy _ (by omega)]; rfl
        · rintro k n k' n' ⟨rfl,rfl⟩; exact hni _ _ _ _ (V_notInt hx hu1) (V_notInt hy hu2)
        · rintro a b ⟨rfl,rfl⟩
          obtain ⟨l,rfl⟩:=V_notStr hx hu1
          obtain ⟨l',rfl⟩:=V_notStr hy hu2
          exact hns _ _ rfl rfl
        · rintro k n rfl; exact V_notFloat hx hu1
        · rintro k n m rfl; exact V_notComplex hx hu1
    · cases h
theorem run_evUn {P:Program} {g:Gh} {w:World} {op:UnOp} {x r:AV} (h:evUn op x = some r) {v:Value} (hv:V g x v):∃ u,(Op.unary op v).run P w = .ok u w∧V g r u:=by
  unfold evUn at h
  split at h
  · simp only [V] at hv; subst hv; cases h; exact ⟨_,rfl,rfl⟩
  · simp only [V] at hv; subst hv; exact run_intBits h w
  · simp only [V] at hv; subst hv; cases h; exact ⟨_,rfl,rfl⟩
  · cases h
theorem run_evConv {P:Program} {tb:List TI} (hP:TbOk P tb) {g:Gh} {w:World} {s d:TypeId} {x r:AV} (h:evConv tb s d x = some r) {v:Value} (hv:V g x v) :
    ∃ u,(convert s d v).run P w = .ok u w∧V g r u:=by
  unfold evConv at h
  split at h
  · rename_i k k' n hd1 hd2
    cases h; simp only [V] at hv; subst hv
    obtain ⟨_,_,_,d1,h1,h2⟩:=descOf_some hP hd1
    obtain ⟨_,_,_,d2,h3,h4⟩:=descOf_some hP hd2
    cases ofDesc_int h4
    refine ⟨_,?_,rfl⟩
    simp only [convert,run_bind2,run_under h1,run_under h3,Result.andThen_ok]
    cases d1 <;> rfl
  · rename_i l hd1 hd2
    cases h; simp only [V] at hv; subst hv
    obtain ⟨_,_,_,d1,h1,h2⟩:=descOf_some hP hd1
    obtain ⟨_,_,_,d2,h3,h4⟩:=descOf_some hP hd2
    cases ofDesc_string h4
    refine ⟨_,?_,rfl⟩
    simp only [convert,run_bind2,run_under h1,run_under h3,Result.andThen_ok]
    cases d1 <;> rfl
  · rename_i k n hd1 hd2
    cases h; simp only [V] at hv; subst hv
    obtain ⟨_,_,_,d1,h1,h2⟩:=descOf_some hP hd1
    obtain ⟨_,_,_,d2,h3,h4⟩:=descOf_some hP hd2
    cases ofDesc_string h4
    refine ⟨.string (Utf8.encode n),?_,?_⟩
    · simp only [convert,run_bind2,run_under h1,run_under h3,Result.andThen_ok]
      cases d1 <;> rfl
    · simp [V]
  · cases h
end Go.Proofs.YtjojaiomgdjhfaaGreatDoor.AE
namespace Go.Proofs.YtjojaiomgdjhfaaGreatDoor.AE
open Go
theorem extract_mk (s:List UInt8) (l h:Nat):(⟨s.toArray⟩:ByteArray).extract l h = ⟨((s.take h).drop l).toArray⟩:=by
  apply ByteArray.ext
  apply Array.ext'
  rw [Lib.extract_data]
  simp [List.drop_take]
theorem run_bnd {P:Program} {g:Gh} {x:AV} {top n:Nat} (h:bnd x top = some n) {v:Value} (hv:V g x v) {top':Nat} (ht:top ≤ top') (code:BoundsCode) (w:World) :
    (Instr.sliceBound v top' code).run P w = .ok n w∧n ≤ top:=by
  unfold bnd at h
  split at h
  · split at h
    · rename_i hb
      cases h; simp only [V] at hv; subst hv
      refine ⟨?_,by omega⟩
      unfold Instr.sliceBound
      rw [run_bind2]
      show (if 0 ≤ _∧_ ≤ (top':Int) then (Pure.pure _:Sem Nat) else _).run P w = _
      rw [if_pos ⟨hb.1,by omega⟩]; rfl
    · cases h
  · cases h
inductive OptV (g:Gh):Option AV→Option Value→Prop
  | none:OptV g none none
  | some {x:AV} {v:Value} (h:V g x v):OptV g (some x) (some v)
theorem run_bounds {P:Program} {g:Gh} {w:World} {isSlice:Bool} {lo hi:Option AV} {vlo vhi:Option Value} (hlo:OptV g lo vlo) (hhi:OptV g hi vhi) {len top cap l h:Nat}
    (hh:bndO hi len top = some h) (hl:bndO lo 0 h = some l) (ht:top ≤ cap) :
    (Instr.sliceBounds isSlice len cap vlo vhi none).run P w = .ok (l,h,cap) w:=by
  unfold Instr.sliceBounds
  cases hhi with
  | none=>
    simp only [bndO] at hh; cases hh
    cases hlo with
    | none=>
      simp only [bndO] at hl; cases hl
      simp only [run_bind2,run_pure2,Result.andThen_ok]
    | some hv=>
      simp only [run_bind2,run_pure2,Result.andThen_ok,(run_bnd (P:=P) hl hv (Nat.le_refl _) _ w).1]
  | some hu=>
    cases hlo with
    | none=>
      simp only [bndO] at hl; cases hl
      simp only [run_bind2,run_pure2,Result.andThen_ok,(run_bnd (P:=P) hh hu ht _ w).1]
    | some hv=>
      simp only [run_bind2,run_pure2,Result.andThen_ok,(run_bnd (P:=P) hh hu ht _ w).1,(run_bnd (P:=P) hl hv (Nat.le_refl _) _ w).1]
theorem run_bounds3 {P:Program} {g:Gh} {w:World} {isSlice:Bool} {lo:Option AV} {vlo:Option Value} {hi mx:AV} {vhi vmx:Value} (hlo:OptV g lo vlo) (hhi:V g hi vhi) (hmx:V g mx vmx) {len top cap l h m:Nat}
    (hm:bnd mx top = some m) (hh:bnd hi m = some h) (hl:bndO lo 0 h = some l) (ht:top ≤ cap) :
    (Instr.sliceBounds isSlice len cap vlo (some vhi) (some vmx)).run P w = .ok (l,h,m) w:=by
  unfold Instr.sliceBounds
  cases hlo with
  | none=>
    simp only [bndO] at hl; cases hl
    simp only [run_bind2,run_pure2,Result.andThen_ok,(run_bnd (P:=P) hm hmx ht _ w).1,(run_bnd (P:=P) hh hhi (Nat.le_refl _) _ w).1]
  | some hv=>
    simp only [run_bind2,run_pure2,Result.andThen_ok,(run_bnd (P:=P) hm hmx ht _ w).1,(run_bnd (P:=P) hh hhi (Nat.le_refl _) _ w).1,(run_bnd (P:=P) hl hv (Nat.le_refl _) _ w).1]
theorem pinned_drop_take {g:Gh} {c off s:Nat} {es:List AV} (h:Pinned g c off (es.flatMap cellsOf)) (hs:∀ e ∈ es,(cellsOf e).length = s) (h' l:Nat) :
    Pinned g c (off + l * s) (((es.take h').drop l).flatMap cellsOf):=by
  have key:∀ (es:List AV) (n:Nat),(∀ e ∈ es,(cellsOf e).length = s)→n ≤ es.length→(es.take n).flatMap cellsOf = (es.flatMap cellsOf).take (n * s)∧(es.drop n).flatMap cellsOf = (es.flatMap cellsOf).drop (n * s):=by
    intro es
    induction es with
    | nil=>intro n _ hn; simp at hn; subst hn; simp
    | cons e r ih=>
      intro n hs hn
      cases n with
      | zero=>simp
      | succ n=>
        obtain ⟨k1,k2⟩:=ih n (fun x hx=>hs x (by simp [hx])) (by simpa using hn)
        have he:=hs e (by simp)
        have hm:(n + 1) * s = (cellsOf e).length + n * s:=by rw [he,Nat.add_mul]; omega
        refine ⟨?_,?_⟩
        · rw [List.take_succ_cons,List.flatMap_cons,List.flatMap_cons,k1,hm,List.take_length_add_append]
        · rw [List.drop_succ_cons,List.flatMap_cons,k2,hm,List.drop_length_add_append]
  intro i a ha
  by_cases h1:h' ≤ es.length
  · have k1:=key es h' hs h1
    by_cases h2:l ≤ (es.take h').length
    · have k2:=key (es.take h') l (fun e he=>hs e (List.mem_of_mem_take he)) h2
      rw [k2.2,k1.1] at ha
      rw [List.getElem?_drop,List.getElem?_take] at ha
      split at ha
      · have:=h _ a ha
        rwa [← Nat.add_assoc] at this
      · cases ha
    · rw [List.drop_of_length_le (by omega)] at ha; simp at ha
  · rw [List.take_of_length_le (by omega)] at ha
    by_cases h2:l ≤ es.length
    · have k2:=key es l hs h2
      rw [k2.2,List.getElem?_drop] at ha
      have:=h _ a ha
      rwa [← Nat.add_assoc] at this
    · rw [List.drop_of_length_le (by omega)] at ha; simp at ha
theorem run_evSlice {P:Program} {tb:List TI} (hP:TbOk P tb) {g:Gh} {w:World} {t:TypeId} {x r:AV} {lo hi mx:Option AV} {vlo vhi vmx:Option Value} {v:Value}
    (h:evSlice tb t x lo hi mx = some r) (hv:V g x v) (hlo:OptV g lo vlo) (hhi:OptV g hi vhi) (hmx:OptV g mx vmx):∃ u,(Instr.sliceAt t v vlo vhi vmx).run P w = .ok u w∧V g r u:=by
  unfold evSlice at h
  split at h
  · rename_i s hd
    obtain ⟨_,_,_,d',h1,h2⟩:=descOf_some hP hd
    cases ofDesc_string h2
    simp only [V] at hv; subst hv
    split at h
    · cases h
    · cases hmx
      split at h
      · rename_i hb hbh
        split at h
        · rename_i l hbl
          cases h
          refine ⟨_,?_,rfl⟩
          unfold Instr.sliceAt
          simp only [run_bind2,run_under h1,Result.andThen_ok]
          unfold Instr.slice
          simp only [run_bind2,run_under h1,Result.andThen_ok,size_mk,Option.isSome_none,Bool.false_eq_true,if_false]
          rw [run_bounds hlo hhi hbh hbl (Nat.le_refl _)]
          simp only [Result.andThen_ok,run_pure2,extract_mk]
        · cases h
      · cases h
  · rename_i e tok sz es hd
    obtain ⟨_,_,_,d',h1,h2⟩:=descOf_some hP hd
    cases ofDesc_slice h2
    split at h
    · cases h
    rename_i hsz
    have hsz':tsize tb e = some sz:=by
      cases hx:tsize tb e with
      | none=>rw [hx] at hsz; simp at hsz
      | some q=>rw [hx] at hsz; simp at hsz; rw [hsz]
    have hsize:=tsize_run hP hsz' w
    -- the value's parts: base, length, capacity
    have hparts:∃ base cap,v = .slice base es.length cap∧es.length ≤ cap∧((es = []∧Bare tok (.slice base es.length cap)) ∨ ∃ c off,base = some ⟨c,off,none⟩∧(∀ e ∈ es,(cellsOf e).length = sz)∧Pinned g c off (es.flatMap cellsOf)∧TokOk g es.length c off cap tok):=by
      simp only [V] at hv
      rcases hv with ⟨hb,rfl⟩ | ⟨c,off,cap,rfl,k1,k2,k3,k4⟩
      · obtain ⟨p,cap,rfl⟩:=hb.slice
        exact ⟨p,cap,rfl,Nat.zero_le _,.inl ⟨rfl,hb⟩⟩
      · exact ⟨_,cap,rfl,k1,.inr ⟨c,off,rfl,k2,k3,k4⟩⟩
    obtain ⟨base,cap,rfl,hcap,hbase⟩:=hparts
    have finish:∀ l h' m tok',(Instr.sliceBounds true es.length cap vlo vhi vmx).run P w = .ok (l,h',m) w→l ≤ h'→h' ≤ m→h' ≤ es.length→m ≤ cap →
        (∀ c off,TokOk g es.length c off cap tok→TokOk g (h' - l) c (if m = l then off else off + l * sz) (m - l) tok')→(es = []→tok = .none ∨ cap = 0→tok' = .none ∨ m = 0) →
        ∃ u,(Instr.sliceAt t (.slice base es.length cap) vlo vhi vmx).run P w = .ok u w∧V g (.slice tok' sz ((es.take h').drop l)) u:=by
      intro l h' m tok' hb hl1 hl2 hl3 hl4 htok hbare
      refine ⟨.slice (if m = l then base else base.map (·.add (l * sz))) (h' - l) (m - l),?_,?_⟩
      · unfold Instr.sliceAt
        simp only [run_bind2,run_under h1,Result.andThen_ok]
        unfold Instr.slice
        simp only [run_bind2,run_under h1,Result.andThen_ok]
        rw [hb]
        simp only [Result.andThen_ok,run_bind2,hsize,run_pure2]
      · have hlen:((es.take h').drop l).length = h' - l:=by simp; omega
        simp only [V]
        rcases hbase with ⟨rfl,hb0⟩ | ⟨c,off,rfl,k2,k3,k4⟩
        · have e1:h' = 0:=by simpa using hl3
          have e2:l = 0:=by omega
          subst e1 e2
          refine .inl ⟨?_,by simp⟩
          rcases hb0 with e | ⟨a,c1,e,hb1⟩
          · cases e
            have e3:m = 0:=by omega
            subst e3
            exact .inl (by simp)
          · cases e
            refine .inr ⟨a,m,?_,hbare rfl hb1⟩
            simp [Addr.add]
        · refine .inr ⟨c,if m = l then off else off + l * sz,m - l,?_,by rw [hlen]; omega,fun e he=>k2 e (List.mem_of_mem_take (List.mem_of_mem_drop he)),?_,by rw [hlen]; exact htok c off k4⟩
          · rw [hlen]
            split
            · rfl
            · simp only [Option.map_some,Addr.add]
              split
              · rename_i h0; rw [h0]; simp
              · rfl
          · split
            · have:(es.take h').drop l = []:=by apply List.drop_of_length_le; simp; omega
              rw [this]; intro i a ha; simp at ha
            · exact pinned_drop_take k3 k2 h' l
    split at h
    · cases hmx
      split at h
      · rename_i hb hbh
        split at h
        · rename_i l hbl
          cases h
          have hle:hb ≤ es.length:=by
            cases hhi with
            | none=>simp only [bndO] at hbh; cases hbh; exact Nat.le_refl _
            | some hu=>exact (run_bnd (P:=P) hbh hu (Nat.le_refl _) .index w).2
          have hll:l ≤ hb:=by
            cases hlo with
            | none=>simp only [bndO] at hbl; cases hbl; omega
            | some hu=>exact (run_bnd (P:=P) hbl hu (Nat.le_refl _) .index w).2
          refine finish l hb cap _ (run_bounds hlo hhi hbh hbl hcap) hll (by omega) hle (Nat.le_refl _) (fun c off k4=>?_) fun h0 ht=>?_
          rotate_left
          · subst h0
            have e1:hb = 0:=by simpa using hle
            have e2:l = 0:=by omega
            subst e1 e2
            rw [if_pos ⟨rfl,.inl rfl⟩]
            exact ht
          by_cases hcond:hb = es.length∧(l = 0 ∨ tok = .full)
          · rw [if_pos hcond]
            obtain ⟨e1,e2⟩:=hcond
            cases tok with
            | none=>trivial
            | full=>simp only [TokOk] at k4 ⊢; omega
            | buf b=>
              have e3:l = 0:=by rcases e2 with e2 | e2; exact e2; cases e2
              subst e3
              simp only [TokOk] at k4 ⊢
              have e5:(if cap = 0 then off else off + 0 * sz) = off:=by split <;> simp
              rw [e5]
              intro s n hn
              have:=k4 s n hn
              simp only [Nat.sub_zero,e1]; exact this
          · rw [if_neg hcond]; trivial
        · cases h
      · cases h
    · rename_i mv
      split at h
      · cases h
      rename_i m hbm
      split at h
      · cases h
      rename_i hv'
      split at h
      · cases h
      rename_i hb hbh
      split at h
      · rename_i l hbl
        cases h
        cases hmx with | some hmv=>
        cases hhi with | some hhv=>
        have hme:=(run_bnd (P:=P) hbm hmv (Nat.le_refl _) .index w).2
        have hle:=(run_bnd (P:=P) hbh hhv (Nat.le_refl _) .index w).2
        have hll:l ≤ hb:=by
          cases hlo with
          | none=>simp only [bndO] at hbl; cases hbl; omega
          | some hu=>exact (run_bnd (P:=P) hbl hu (Nat.le_refl _) .index w).2
        refine finish l hb m _ (run_bounds3 hlo hhv hmv hbm hbh hbl hcap) hll hle (by omega) (by omega) (fun c off k4=>?_) fun h0 ht=>?_
        rotate_left
        · subst h0
          have e1:m = 0:=by simpa using hme
          subst e1
          by_cases hcond:hb = 0
          · rw [if_pos hcond]; exact .inr rfl
          · rw [if_neg hcond]; exact .inl rfl
        by_cases hcond:hb = m
        · rw [if_pos hcond]; simp only [TokOk]; omega
        · rw [if_neg hcond]; trivial
      · cases h
  · rename_i e hd
    obtain ⟨_,_,_,d',h1,h2⟩:=descOf_some hP hd
    cases ofDesc_slice h2
    simp only [V] at hv; subst hv
    have fin:∀ sz,tsize tb e = some sz→(Instr.sliceBounds true 0 0 vlo vhi vmx).run P w = .ok (0,0,0) w→(Instr.sliceAt t (.slice none 0 0) vlo vhi vmx).run P w = .ok (.slice none 0 0) w:=by
      intro sz hsz hb
      unfold Instr.sliceAt
      simp only [run_bind2,run_under h1,Result.andThen_ok]
      unfold Instr.slice
      simp only [run_bind2,run_under h1,Result.andThen_ok]
      rw [hb]
      simp only [Result.andThen_ok,run_bind2,tsize_run hP hsz w,run_pure2]; rfl
    split at h
    · rename_i sz hi' hsz
      cases hmx
      split at h
      · rename_i a b ha hb
        cases h
        have ea:a = 0:=by
          cases hhi with
          | none=>simp only [bndO] at ha; cases ha; rfl
          | some hu=>exact Nat.le_zero.1 (run_bnd (P:=P) ha hu (Nat.le_refl _) .index w).2
        subst ea
        have eb:b = 0:=by
          cases hlo with
          | none=>simp only [bndO] at hb; cases hb; rfl
          | some hu=>exact Nat.le_zero.1 (run_bnd (P:=P) hb hu (Nat.le_refl _) .index w).2
        subst eb
        exact ⟨_,fin _ hsz (run_bounds hlo hhi ha hb (Nat.le_refl _)),rfl⟩
      · cases h
    · rename_i sz m hh hsz
      cases hmx with | some hmv=>
      cases hhi with | some hhv=>
      split at h
      · rename_i m' a b hm' ha hb
        cases h
        have em:m' = 0:=Nat.le_zero.1 (run_bnd (P:=P) hm' hmv (Nat.le_refl _) .index w).2
        subst em
        have ea:a = 0:=Nat.le_zero.1 (run_bnd (P:=P) ha hhv (Nat.le_refl _) .index w).2
        subst ea
        have eb:b = 0:=by
          cases hlo with
          | none=>simp only [bndO] at hb; cases hb; rfl
          | some hu=>exact Nat.le_zero.1 (run_bnd (P:=P) hb hu (Nat.le_refl _) .index w).2
        subst eb
        exact ⟨_,fin _ hsz (run_bounds3 hlo hhv hmv hm' ha hb (Nat.le_refl _)),rfl⟩
      · cases h
    · cases h
  · cases h
end Go.Proofs.YtjojaiomgdjhfaaGreatDoor.AE
namespace Go.Proofs.YtjojaiomgdjhfaaGreatDoor.AE
open Go
theorem add_eq (c off n:Nat):(⟨c,off,none⟩:Addr).add n = ⟨c,off + n,none⟩:=by
  unfold Addr.add
  split
  · rename_i h; subst h; rfl
  · rfl
theorem pinned_at {g:Gh} {c off s:Nat} {es:List AV} (h:Pinned g c off (es.flatMap cellsOf)) (hs:∀ e ∈ es,(cellsOf e).length = s) {i:Nat} {e:AV} (he:es[i]? = some e):Pinned g c (off + i * s) (cellsOf e):=by
  have:=pinned_drop_take h hs (i + 1) i
  have h2:(es.take (i + 1)).drop i = [e]:=by
    obtain ⟨hi,rfl⟩:=List.getElem?_eq_some_iff.1 he
    have hlen:(es.take i).length = i:=by simp; omega
    rw [List.take_succ_eq_append_getElem hi,List.drop_append,List.drop_of_length_le (by omega),hlen]
    simp
  rw [h2] at this
  simpa using this
theorem run_evIndexAddr {P:Program} {tb:List TI} (hP:TbOk P tb) {g:Gh} {w:World} {t:TypeId} {x i r:AV} (h:evIndexAddr tb t x i = some r) {vx vi:Value} (hx:V g x vx) (hi:V g i vi) :
    ∃ u,(Instr.indexAt t vx vi).run P w = .ok u w∧V g r u:=by
  unfold evIndexAddr at h
  split at h
  · rename_i e tok sz es k n hd
    obtain ⟨_,_,_,d',h1,h2⟩:=descOf_some hP hd
    cases ofDesc_slice h2
    split at h
    · cases h
    rename_i hsz
    have hsz':tsize tb e = some sz:=by
      cases hq:tsize tb e with
      | none=>rw [hq] at hsz; simp at hsz
      | some q=>rw [hq] at hsz; simp at hsz; rw [hsz]
    split at h
    · rename_i hn
      cases he:es[n.toNat]? with
      | none=>rw [he] at h; cases h
      | some el=>
        rw [he] at h; cases h
        simp only [V] at hi hx; subst hi
        rcases hx with ⟨_,rfl⟩ | ⟨c,off,cap,rfl,k1,k2,k3,k4⟩
        · simp at he
        · have hlt:n.toNat < es.length:=(List.getElem?_eq_some_iff.1 he).1
          refine ⟨.pointer (some ⟨c,off + n.toNat * sz,none⟩),?_,⟨c,_,rfl,pinned_at k3 k2 he⟩⟩
          unfold Instr.indexAt
          simp only [asIntOf,run_bind2,run_pure2,Result.andThen_ok,run_under h1]
          rw [if_pos ⟨hn,by omega⟩]
          simp only [run_bind2,tsize_run hP hsz' w,Result.andThen_ok,run_pure2,add_eq]
    · cases h
  · rename_i e b sz off len cap k n hd
    obtain ⟨_,_,_,d',h1,h2⟩:=descOf_some hP hd
    cases ofDesc_slice h2
    split at h
    · cases h
    rename_i hsz
    have hsz':tsize tb e = some sz:=by
      cases hq:tsize tb e with
      | none=>rw [hq] at hsz; simp at hsz
      | some q=>rw [hq] at hsz; simp at hsz; rw [hsz]
    split at h
    · rename_i hn
      cases h
      simp only [V] at hi hx; subst hi
      obtain ⟨c,hc,rfl,_⟩:=hx
      refine ⟨.pointer (some ⟨c,off + n.toNat * sz,none⟩),?_,⟨c,hc,rfl⟩⟩
      unfold Instr.indexAt
      simp only [asIntOf,run_bind2,run_pure2,Result.andThen_ok,run_under h1]
      rw [if_pos hn]
      simp only [run_bind2,tsize_run hP hsz' w,Result.andThen_ok,run_pure2,add_eq]
    · cases h
  · rename_i len e b off k n hd
    obtain ⟨_,_,_,d',h1,h2⟩:=descOf_some hP hd
    cases ofDesc_array h2
    split at h
    · rename_i sz hsz'
      split at h
      · rename_i hn
        cases h
        simp only [V] at hi hx; subst hi
        obtain ⟨c,hc,rfl⟩:=hx
        refine ⟨.pointer (some ⟨c,off + n.toNat * sz,none⟩),?_,⟨c,hc,rfl⟩⟩
        unfold Instr.indexAt
        simp only [asIntOf,run_bind2,run_pure2,Result.andThen_ok,run_under h1,Instr.sureAddr]
        rw [if_pos hn]
        simp only [run_bind2,tsize_run hP hsz' w,Result.andThen_ok,run_pure2,add_eq]
      · cases h
    · cases h
  · rename_i len e cs k n hd
    obtain ⟨_,_,_,d',h1,h2⟩:=descOf_some hP hd
    cases ofDesc_array h2
    split at h
    · rename_i sz hsz'
      split at h
      · rename_i hn
        cases h
        simp only [V] at hi hx; subst hi
        obtain ⟨c,off,rfl,hp⟩:=hx
        refine ⟨.pointer (some ⟨c,off + n.toNat * sz,none⟩),?_,⟨c,_,rfl,?_⟩⟩
        · unfold Instr.indexAt
          simp only [asIntOf,run_bind2,run_pure2,Result.andThen_ok,run_under h1,Instr.sureAddr]
          rw [if_pos hn]
          simp only [run_bind2,tsize_run hP hsz' w,Result.andThen_ok,run_pure2,add_eq]
        · intro i a ha
          rw [List.getElem?_drop] at ha
          have:=hp _ a ha
          rwa [← Nat.add_assoc] at this
      · cases h
    · cases h
  · cases h
def Agree (r:OpR) (G H:Heap):Prop:=∀ b,(∃ x ∈ r.rd,x.root = b.root)→find G b = find H b
theorem Agree.refl (r:OpR) (H:Heap):Agree r H H:=fun _ _=>rfl
theorem run_takeCells {P:Program} {g:Gh} {w:World} {t:TypeId} {ti:TI} (ht:TyFacts P t ti) {cs:List AV} {off:Nat} {r:AV} (h:takeCells ti cs off = some r) {vs:Array Value} (hv:VL g cs vs.toList) :
    ∃ u,(part t vs off).run P w = .ok u w∧V g r u:=by
  unfold takeCells at h
  unfold part
  simp only [run_bind2,ht.isAgg,Result.andThen_ok]
  split at h
  · rename_i ha
    rw [ha,if_pos rfl]
    split at h
    · rename_i hl
      cases h
      simp only [run_bind2,ht.size,Result.andThen_ok,run_pure2]
      refine ⟨_,rfl,?_⟩
      simp only [V]
      refine ⟨_,rfl,?_⟩
      have:=(hv.drop off).take ti.size
      simpa [Array.toList_extract,List.extract_eq_take_drop] using this
    · cases h
  · rename_i ha
    have hf:ti.agg = false:=by simpa using ha
    rw [hf]
    simp only [Bool.false_eq_true,if_false]
    obtain ⟨u,h1,h2⟩:=hv.get off r h
    rw [Array.getElem?_toList] at h1
    rw [h1]
    exact ⟨u,rfl,h2⟩
theorem run_evIndex {P:Program} {tb:List TI} (hP:TbOk P tb) {g:Gh} {w:World} {t:TypeId} {x i r:AV} (h:evIndex tb t x i = some r) {vx vi:Value} (hx:V g x vx) (hi:V g i vi) :
    ∃ u,(Instr.index t vx vi).run P w = .ok u w∧V g r u:=by
  unfold evIndex at h
  split at h
  · rename_i len e cs k n hd
    obtain ⟨_,_,_,d',h1,h2⟩:=descOf_some hP hd
    cases ofDesc_array h2
    split at h
    · rename_i ti hti
      split at h
      · rename_i hn
        simp only [V] at hi hx; subst hi
        obtain ⟨y,rfl,hy⟩:=hx
        obtain ⟨u,k1,k2⟩:=run_takeCells (w:=w) (hP.facts hti) h hy
        refine ⟨u,?_,k2⟩
        unfold Instr.index
        simp only [asIntOf,run_bind2,run_pure2,Result.andThen_ok,run_under h1]
        rw [if_pos hn]
        simp only [run_bind2,(hP.facts hti).size,Result.andThen_ok]
        exact k1
      · cases h
    · cases h
  · rename_i s k n hd
    obtain ⟨_,_,_,d',h1,h2⟩:=descOf_some hP hd
    cases ofDesc_string h2
    split at h
    · rename_i hn
      cases he:s[n.toNat]? with
      | none=>rw [he] at h; cases h
      | some b=>
        rw [he] at h; cases h
        simp only [V] at hi hx; subst hi hx
        refine ⟨.int .u8 b.toNat,?_,rfl⟩
        unfold Instr.index
        simp only [asIntOf,run_bind2,run_pure2,Result.andThen_ok,run_under h1]
        rw [if_pos hn]
        have:(⟨s.toArray⟩:ByteArray)[n.toNat]? = some b:=by
          obtain ⟨hlt,rfl⟩:=List.getElem?_eq_some_iff.1 he
          rw [getElem?_pos (c:=(⟨s.toArray⟩:ByteArray)) (h:=by simpa [ByteArray.size] using hlt)]
          rfl
        rw [this]; rfl
    · cases h
  · cases h
theorem fieldsOf_some {P:Program} {tb:List TI} (hP:TbOk P tb) {s:TypeId} {fs:List (Nat × TypeId)} (h:fieldsOf tb s = some fs) :
    ∃ fields,P.underlying s = some (.struct fields)∧∀ (f off:Nat) (ft:TypeId),fs[f]? = some (off,ft)→∃ fld,fields[f]? = some fld∧fld.offset = off∧fld.type = ft:=by
  unfold fieldsOf at h
  split at h
  · rename_i l hd
    cases h
    obtain ⟨_,_,_,d',h1,h2⟩:=descOf_some hP hd
    obtain ⟨fields,rfl,rfl⟩:=ofDesc_struct h2
    refine ⟨fields,h1,fun f off ft hf=>?_⟩
    rw [List.getElem?_map] at hf
    cases hq:fields.toList[f]? with
    | none=>rw [hq] at hf; cases hf
    | some fld=>
      rw [hq] at hf; cases hf
      exact ⟨fld,by rw [← Array.getElem?_toList]; exact hq,rfl,rfl⟩
  · cases h
theorem run_evFieldAddr {P:Program} {tb:List TI} (hP:TbOk P tb) {g:Gh} {w:World} {s:TypeId} {f:Nat} {x r:AV} (h:evFieldAddr tb s x f = some r) {v:Value} (hv:V g x v) :
    ∃ u,(Instr.fieldAt s v f).run P w = .ok u w∧V g r u:=by
  unfold evFieldAddr at h
  split at h
  · cases h
  rename_i fs hfs
  obtain ⟨fields,h1,hff⟩:=fieldsOf_some hP hfs
  split at h
  · cases h
  rename_i off ft hf
  obtain ⟨fld,h2,rfl,rfl⟩:=hff f off ft hf
  split at h
  · cases h
  rename_i sz hsz
  split at h
  · cases h
  rename_i hnz
  have go:∀ c o,(Instr.fieldAt s (.pointer (some ⟨c,o,none⟩)) f).run P w = .ok (.pointer (some ⟨c,o + fld.offset,none⟩)) w:=by
    intro c o
    unfold Instr.fieldAt
    simp only [run_bind2,run_under h1,Result.andThen_ok,h2,Instr.sureAddr,run_pure2,fieldPlace,tsize_run hP hsz w]
    rw [if_neg hnz]
    simp only [run_pure2,Result.andThen_ok,add_eq]
  split at h
  · cases h
    obtain ⟨c,hc,rfl⟩:=hv
    exact ⟨_,go c _,⟨c,hc,rfl⟩⟩
  · cases h
    obtain ⟨c,o,rfl,hp⟩:=hv
    refine ⟨_,go c o,⟨c,_,rfl,?_⟩⟩
    intro i a ha
    rw [List.getElem?_drop] at ha
    have:=hp _ a ha
    rwa [← Nat.add_assoc] at this
  · cases h
theorem run_evField {P:Program} {tb:List TI} (hP:TbOk P tb) {g:Gh} {w:World} {s:TypeId} {f:Nat} {x r:AV} (h:evField tb s x f = some r) {v:Value} (hv:V g x v) :
    ∃ u,(Instr.field s v f).run P w = .ok u w∧V g r u:=by
  unfold evField at h
  split at h
  · rename_i fs cs hfs
    obtain ⟨fields,h1,hff⟩:=fieldsOf_some hP hfs
    split at h
    · rename_i off ft hf
      obtain ⟨fld,h2,rfl,rfl⟩:=hff f off ft hf
      split at h
      · rename_i ti hti
        obtain ⟨y,rfl,hy⟩:=hv
        obtain ⟨u,k1,k2⟩:=run_takeCells (w:=w) (hP.facts hti) h hy
        refine ⟨u,?_,k2⟩
        unfold Instr.field
        simp only [run_bind2,run_under h1,Result.andThen_ok,h2,asAgg,run_pure2]
        exact k1
      · cases h
    · cases h
  · cases h
theorem run_load_cells {P:Program} {g:Gh} {w:World} {t:TypeId} {ti:TI} (ht:TyFacts P t ti) {c off:Nat} {cs:List AV} {o:Nat} {r:AV} (h:takeCells ti cs o = some r)
    (hc:∀ i a,cs[i]? = some a→∃ v,w.cell? ⟨c,off + i,none⟩ = some v∧V g a v) :
    ∃ u,(Instr.loadAt t (.pointer (some ⟨c,off + o,none⟩))).run P w = .ok u w∧V g r u:=by
  unfold takeCells at h
  unfold Instr.loadAt loadVar
  simp only [run_bind2,Instr.sureAddr,run_pure2,ht.isAgg,Result.andThen_ok]
  split at h
  · rename_i ha
    rw [ha,if_pos rfl]
    split at h
    · rename_i hl
      cases h
      have hcell:∀ j,j < ti.size→∃ v a,((cs.drop o).take ti.size)[j]? = some a∧w.cell? ⟨c,off + o + j,none⟩ = some v∧V g a v:=by
        intro j hj
        obtain ⟨v,h1,h2⟩:=hc (o + j) (cs[o + j]'(by omega)) (List.getElem?_eq_getElem _)
        exact ⟨v,_,by rw [List.getElem?_take,if_pos hj,List.getElem?_drop]; exact List.getElem?_eq_getElem _,by rw [Nat.add_assoc]; exact h1,h2⟩
      have hrun:=run_loadCells (P:=P) w ⟨c,off + o,none⟩ ti.size (fun j=>(w.cell? ⟨c,off + o + j,none⟩).getD undef) (by
        intro j hj
        obtain ⟨v,a,_,h1,_⟩:=hcell j hj
        rw [add_eq,h1]; rfl)
      simp only [run_bind2,ht.size,Result.andThen_ok,hrun,run_pure2]
      refine ⟨_,rfl,?_⟩
      simp only [V]
      refine ⟨_,rfl,?_⟩
      refine VL.of_get (by simp; omega) fun j a v hja hjv=>?_
      have hj:j < ti.size:=by
        rw [List.getElem?_take] at hja; split at hja; assumption; cases hja
      obtain ⟨v',a',h1,h2,h3⟩:=hcell j hj
      rw [h1] at hja; cases hja
      simp only [List.getElem?_map,List.getElem?_range hj,Option.map_some,Option.some.injEq] at hjv
      rw [h2] at hjv; simp at hjv; subst hjv
      exact h3
    · cases h
  · rename_i ha
    have hf:ti.agg = false:=by simpa using ha
    rw [hf]
    simp only [Bool.false_eq_true,if_false]
    obtain ⟨v,h1,h2⟩:=hc o r h
    refine ⟨v,?_,h2⟩
    show (load ⟨c,off + o,none⟩).run P w = _
    unfold load
    simp only [Sem.run,h1]
theorem run_evLoad {P:Program} {tb:List TI} (hP:TbOk P tb) {g:Gh} {G H:Heap} {w:World} (hw:WC g H w) {t:TypeId} {a:AV} {r:OpR} (h:evLoad tb G t a = some r) (hag:Agree r G H) {v:Value} (hv:V g a v) :
    (∃ u,(Instr.loadAt t v).run P w = .ok u w∧V g r.v u)∧r.ws = []∧r.fresh = false:=by
  unfold evLoad at h
  split at h
  · rename_i ti cs hti
    cases hk:takeCells ti cs 0 with
    | none=>rw [hk] at h; cases h
    | some x=>
      rw [hk] at h; cases h
      obtain ⟨c,off,rfl,hp⟩:=hv
      refine ⟨?_,rfl,rfl⟩
      have:=run_load_cells (P:=P) (w:=w) (g:=g) (c:=c) (off:=off) (hP.facts hti) hk (fun i a ha=>by
        obtain ⟨v,h1,h2,_⟩:=(hw.pin c (off + i) a (hp i a ha).1).cell (hp i a ha).2
        exact ⟨v,h1,h2⟩)
      simpa using this
  · rename_i ti b off hti
    split at h
    · rename_i wr cs hb
      split at h
      case isFalse=>cases h
      rename_i hrow
      cases hk:takeCells ti cs off with
      | none=>rw [hk] at h; cases h
      | some x=>
        rw [hk] at h; cases h
        obtain ⟨c,hc,rfl⟩:=hv
        have hb':find H b = some (.cells wr cs):=by rw [← hag b ⟨b,by simp,rfl⟩]; exact hb
        obtain ⟨c',k1,kb,k4⟩:=hw.objs b _ hb'
        rw [hc] at k1; cases k1
        obtain ⟨vs,e,k2,k3⟩:=kb.row hrow
        refine ⟨?_,rfl,rfl⟩
        have:=run_load_cells (P:=P) (w:=w) (g:=g) (c:=c) (off:=0) (hP.facts hti) hk (fun i a ha=>by
          obtain ⟨v,h1,h2⟩:=k3.get i a ha
          rw [Array.getElem?_toList] at h1
          exact ⟨v,by rw [Nat.zero_add,cell_of_block k2]; exact h1,h2⟩)
        simpa using this
    · cases h
  · cases h
end Go.Proofs.YtjojaiomgdjhfaaGreatDoor.AE
namespace Go.Proofs.YtjojaiomgdjhfaaGreatDoor.AE
open Go
theorem setRange_length (vs:List AV):∀ (cs:List AV) (off:Nat),(setRange cs off vs).length = cs.length:=by
  induction vs with
  | nil=>intro cs off; rfl
  | cons v vs ih=>intro cs off; simp only [setRange]; rw [ih]; simp
theorem VL.set {g:Gh} {cs:List AV} {us:List Value} (h:VL g cs us) (o:Nat) {a:AV} {v:Value} (hv:V g a v):VL g (cs.set o a) (us.set o v):=by
  refine VL.of_get (by simp [h.length]) fun i x y hx hy=>?_
  rw [List.getElem?_set] at hx hy
  split at hx
  · rename_i e
    rw [if_pos e] at hy
    split at hx
    · rename_i e2
      rw [if_pos (by rw [h.length]; exact e2)] at hy
      cases hx; cases hy; exact hv
    · cases hx
  · rename_i e
    rw [if_neg e] at hy
    obtain ⟨u,h1,h2⟩:=h.get i x hx
    rw [h1] at hy; cases hy; exact h2
theorem VL.setRange {g:Gh}:∀ {vs:List AV} {us:List Value},VL g vs us→∀ {cs:List AV} {ws:List Value} (off:Nat),VL g cs ws→off + vs.length ≤ cs.length →
    VL g (AE.setRange cs off vs) (ws.take off ++ us ++ ws.drop (off + us.length))
  | [],us,h,cs,ws,off,hc,hl=>by
    simp [VL] at h; subst h
    simpa [AE.setRange] using hc
  | v :: vs,us,h,cs,ws,off,hc,hl=>by
    obtain ⟨u,us,rfl,h1,h2⟩:=h
    simp only [AE.setRange]
    simp only [List.length_cons] at hl
    have ih:=VL.setRange h2 (off + 1) (hc.set off h1) (by simp; omega)
    have hws:ws.length = cs.length:=hc.length
    have e:(ws.set off u).take (off + 1) ++ us ++ (ws.set off u).drop (off + 1 + us.length) = ws.take off ++ (u :: us) ++ ws.drop (off + (u :: us).length):=by
      have hlt:off < ws.length:=by omega
      rw [List.set_eq_take_append_cons_drop,if_pos hlt]
      have e1:(ws.take off).length = off:=by simp; omega
      rw [List.take_append,List.drop_append,e1]
      simp only [Nat.add_sub_cancel_left,List.take_succ_cons,List.take_zero,List.length_cons]
      rw [List.take_of_length_le (by omega),List.drop_of_length_le (by omega)]
      have e2:off + 1 + us.length - off = us.length + 1:=by omega
      rw [e2,List.drop_succ_cons,List.drop_drop]
      simp
      congr 1; omega
    rw [e] at ih
    exact ih
inductive PV (g:Gh):List (Nat × AV)→List (Nat × Value)→Prop
  | nil:PV g [] []
  | cons {i:Nat} {a:AV} {v:Value} {as:List (Nat × AV)} {vs:List (Nat × Value)} (h:V g a v) (t:PV g as vs):PV g ((i,a) :: as) ((i,v) :: vs)
theorem run_fill {g:Gh} {place:Nat→Option (Nat × Nat)}:∀ {parts:List (Nat × AV)} {vparts:List (Nat × Value)} {cells r:List AV} {vcells:Array Value},
    PV g parts vparts→VL g cells vcells.toList→fillL place cells parts = some r →
    ∃ out,Instr.fill place vcells vparts = some out∧VL g r out.toList∧out.size = vcells.size
  | [],_,cells,r,vcells,.nil,hc,h=>by
    cases h; exact ⟨vcells,rfl,hc,rfl⟩
  | (i,a) :: parts,_,cells,r,vcells,.cons (v:=v) hv hr,hc,h=>by
    simp only [fillL] at h
    unfold Instr.fill
    split at h
    · cases h
    · rename_i off size hp
      rw [hp]
      simp only
      split at h
      · cases h
      · rename_i hcond
        have hcond':(cellsOf a).length = size∧off + (cellsOf a).length ≤ cells.length∧noUndef a = true:=by
          refine ⟨?_,?_,?_⟩
          · exact Decidable.byContradiction fun x=>hcond (.inl x)
          · exact Nat.le_of_not_gt fun x=>hcond (.inr (.inl x))
          · cases hq:noUndef a with
            | true=>rfl
            | false=>exact (hcond (.inr (.inr hq))).elim
        obtain ⟨h1,h2,h3⟩:=hcond'
        have hcl:=hv.cells h3
        have hcs:v.cells.size = size:=by rw [← h1,← hcl.length]; simp
        have hvs:vcells.size = cells.length:=by rw [← hc.length]; simp
        rw [if_neg (by
          simp only [Bool.or_eq_true,decide_eq_true_eq,not_or]
          exact ⟨by simp [hcs],by omega⟩)]
        have hfold:∀ (l:List Value) (k:Nat) (arr:Array Value),off + k + l.length ≤ arr.size→((l.zipIdx k).foldl (fun cs x=>cs.setIfInBounds (off + x.2) x.1) arr).toList = arr.toList.take (off + k) ++ l ++ arr.toList.drop (off + k + l.length):=by
          intro l
          induction l with
          | nil=>intro k arr _; simp
          | cons x l ih=>
            intro k arr hlen
            simp only [List.length_cons] at hlen
            rw [List.zipIdx_cons,List.foldl_cons,ih (k + 1) _ (by simp; omega)]
            simp only [Array.toList_setIfInBounds]
            have hlt:off + k < arr.toList.length:=by simp; omega
            rw [List.set_eq_take_append_cons_drop,if_pos hlt]
            have e1:(arr.toList.take (off + k)).length = off + k:=by simp; omega
            rw [List.take_append,List.drop_append,e1]
            have e3:off + (k + 1) - (off + k) = 1:=by omega
            have e4:off + (k + 1) + l.length - (off + k) = l.length + 1:=by omega
            rw [e3,e4,List.take_succ_cons,List.take_zero,List.drop_succ_cons,List.drop_drop,List.take_of_length_le (by omega),List.drop_of_length_le (by omega)]
            simp
            congr 1; omega
        have hres:(v.cells.zipIdx.foldl (fun cs (c,j)=>cs.setIfInBounds (off + j) c) vcells).toList = vcells.toList.take off ++ v.cells.toList ++ vcells.toList.drop (off + v.cells.toList.length):=by
          have:=hfold v.cells.toList 0 vcells (by simp [hcs,hvs]; omega)
          simp only [Nat.add_zero] at this
          rw [← this,← Array.foldl_toList,Array.toList_zipIdx]
        have ih:=run_fill (place:=place) (vcells:=v.cells.zipIdx.foldl (fun cs (c,j)=>cs.setIfInBounds (off + j) c) vcells) hr (by rw [hres]; exact VL.setRange hcl off hc h2) h
        obtain ⟨out,k1,k2,k3⟩:=ih
        refine ⟨out,k1,k2,?_⟩
        rw [k3,← Array.length_toList,hres]
        simp [hcs,hvs]; omega
end Go.Proofs.YtjojaiomgdjhfaaGreatDoor.AE
namespace Go.Proofs.YtjojaiomgdjhfaaGreatDoor.AE
open Go
theorem zero_some {P:Program} {t:TypeId} {ti:TI} (h:TyFacts P t ti) (hz:ti.zero.isEmpty = false):∃ i z,P.info? t = some i∧i.zero = some z∧ti.size = i.size∧ti.zero = z.cells.toList.map ofCell:=by
  obtain ⟨i,d,h1,h2,h3,_,_,h5,_⟩:=h.ex
  cases hi:i.zero with
  | none=>rw [h5,hi] at hz; simp [zeroCellsOf] at hz
  | some z=>exact ⟨i,z,h1,hi,h3,by rw [h5,hi]; rfl⟩
theorem mapM_sizes {P:Program} {tb:List TI} (hP:TbOk P tb):∀ (fs:List Field),(∀ f ∈ fs,∃ s,tsize tb f.type = some s) →
    ∃ pl,fs.mapM (fun f=>(P.info? f.type).map fun i=>(f.offset,i.size)) = some pl∧∀ k:Nat,pl[k]? = (fs[k]?).bind fun f=>(tsize tb f.type).map fun s=>(f.offset,s)
  | [],_=>⟨[],by simp,by simp⟩
  | f :: fs,h=>by
    obtain ⟨s,hs⟩:=h f (by simp)
    obtain ⟨pl,h1,h2⟩:=mapM_sizes hP fs fun x hx=>h x (by simp [hx])
    obtain ⟨ti,hti,rfl⟩:=tsize_some hP hs
    obtain ⟨i,d,k1,k2,k3,_⟩:=(hP.facts hti).ex
    refine ⟨(f.offset,i.size) :: pl,by simp [List.mapM_cons,k1,h1],fun k=>?_⟩
    cases k with
    | zero=>simp [hs,k3]
    | succ k=>simpa using h2 k
theorem run_evBuild {P:Program} {tb:List TI} (hP:TbOk P tb) {g:Gh} {w:World} {t:TypeId} {parts:List (Nat × AV)} {r:AV} (h:evBuild tb t parts = some r) {vparts:Array (Nat × Value)} (hp:PV g parts vparts.toList) :
    ∃ u,(Instr.build t vparts).run P w = .ok u w∧V g r u:=by
  unfold evBuild at h
  split at h
  · cases h
  rename_i ti hti
  split at h
  · cases h
  rename_i hze
  obtain ⟨i,z,h1,h2,h3,h4⟩:=zero_some (hP.facts hti) (by simpa using hze)
  have hz:VL g ti.zero z.cells.toList:=by rw [h4]; exact VL_ofCell g _
  obtain ⟨d',k1,k2⟩:=(hP.facts hti).under
  split at h
  · rename_i fs hd
    split at h
    · cases h
    rename_i hsz
    rw [hd] at k2
    obtain ⟨fields,rfl,rfl⟩:=ofDesc_struct k2
    have hall:∀ f ∈ fields.toList,∃ s,tsize tb f.type = some s:=by
      intro f hf
      cases hq:tsize tb f.type with
      | some s=>exact ⟨s,rfl⟩
      | none=>exact (hsz (by simp only [List.any_eq_true]; exact ⟨(f.offset,f.type),List.mem_map.2 ⟨f,hf,rfl⟩,by simp [hq]⟩)).elim
    obtain ⟨pl,m1,m2⟩:=mapM_sizes hP fields.toList hall
    cases hr:fillL (fun i=>((fields.toList.map fun f=>(f.offset,f.type))[i]?).bind fun (f:Nat × TypeId)=>(tsize tb f.2).map fun s=>(f.1,s)) ti.zero parts with
    | none=>rw [hr] at h; cases h
    | some cells=>
      rw [hr] at h; cases h
      have hplace:(fun i=>((fields.toList.map fun f=>(f.offset,f.type))[i]?).bind fun (f:Nat × TypeId)=>(tsize tb f.2).map fun s=>(f.1,s)) = (fun i:Nat=>pl.toArray[i]?):=by
        funext i
        rw [List.getElem?_toArray,m2 i,List.getElem?_map]
        cases fields.toList[i]? <;> rfl
      rw [hplace] at hr
      obtain ⟨out,o1,o2,o3⟩:=run_fill hp hz hr
      refine ⟨.agg out,run_build w t vparts out ?_,⟨out,rfl,o2⟩⟩
      unfold Program.built
      simp only [h1,k1,h2,m1,o1]
  · rename_i n e hd
    split at h
    · rename_i s hs
      rw [hd] at k2
      cases ofDesc_array k2
      cases hr:fillL (fun i=>some (i * s,s)) ti.zero parts with
      | none=>rw [hr] at h; cases h
      | some cells=>
        rw [hr] at h; cases h
        obtain ⟨out,o1,o2,o3⟩:=run_fill hp hz hr
        obtain ⟨te,hte,rfl⟩:=tsize_some hP hs
        obtain ⟨ie,_,q1,_,q3,_⟩:=(hP.facts hte).ex
        refine ⟨.agg out,run_build w t vparts out ?_,⟨out,rfl,o2⟩⟩
        unfold Program.built
        simp only [h1,k1,h2,q1,← q3,o1]
    · cases h
  · cases h
theorem flatten_get (l:List AV) (hl:l ≠ []):∀ (n i:Nat),(List.replicate n l).flatten[i]? = if i < n * l.length then l[i % l.length]? else none
  | 0,i=>by simp
  | n + 1,i=>by
    have hpos:0 < l.length:=List.length_pos_iff.2 hl
    rw [List.replicate_succ,List.flatten_cons,List.getElem?_append]
    split
    · rename_i h
      rw [if_pos (by rw [Nat.add_mul]; omega),Nat.mod_eq_of_lt h]
    · rename_i h
      have h':l.length ≤ i:=by omega
      rw [flatten_get l hl n (i - l.length)]
      have:(i - l.length) % l.length = i % l.length:=by rw [Nat.mod_eq_sub_mod h']
      rw [this]
      have e:(i - l.length < n * l.length) ↔ i < (n + 1) * l.length:=by rw [Nat.add_mul]; omega
      simp only [e]
theorem chunk_length (agg:Bool) (s:Nat):∀ (n:Nat) (cs:List AV),(chunk agg s n cs).length = n
  | 0,_=>rfl
  | n + 1,cs=>by simp [chunk,chunk_length agg s n]
theorem cellsOf_ok {a:AV} (h:cellOk a = true):cellsOf a = [a]:=by cases a <;> simp_all [cellOk,cellsOf]
theorem chunk_cells {agg:Bool} {s:Nat} (hs:agg = true ∨ s = 1):∀ (n:Nat) (cs:List AV),cs.length = n * s→(∀ c ∈ cs,cellOk c = true) →
    (chunk agg s n cs).flatMap cellsOf = cs∧∀ e ∈ chunk agg s n cs,(cellsOf e).length = s
  | 0,cs,hl,_=>by
    simp at hl; subst hl; simp [chunk]
  | n + 1,cs,hl,hc=>by
    rw [Nat.add_mul] at hl
    obtain ⟨k1,k2⟩:=chunk_cells hs n (cs.drop s) (by simp; omega) (fun c hcm=>hc c (List.mem_of_mem_drop hcm))
    simp only [chunk,List.flatMap_cons,k1,List.mem_cons]
    cases agg with
    | true=>
      refine ⟨by simp [cellsOf],fun e he=>?_⟩
      rcases he with rfl | he
      · simp [cellsOf]; omega
      · exact k2 e he
    | false=>
      have hs1:s = 1:=by rcases hs with h | h; cases h; exact h
      subst hs1
      cases cs with
      | nil=>simp at hl
      | cons c r=>
        have hcc:=cellsOf_ok (hc c (by simp))
        simp only [List.headD_cons,List.drop_succ_cons,List.drop_zero,Bool.false_eq_true,if_false]
        refine ⟨by rw [hcc]; rfl,fun e he=>?_⟩
        rcases he with rfl | he
        · rw [hcc]; rfl
        · exact k2 e (by simpa using he)
theorem cleanL_length:∀ cs:List AV,(cleanL cs).length = cs.length
  | []=>rfl
  | c :: r=>by simp [cleanL,cleanL_length r]
theorem stillL_all {cs:List AV} (h:stillL cs = true):∀ c ∈ cs,cellOk c = true:=by
  simp only [stillL,Bool.and_eq_true,List.all_eq_true] at h
  exact h.2
theorem fillL_length {place:Nat→Option (Nat × Nat)}:∀ {parts:List (Nat × AV)} {cells r:List AV},fillL place cells parts = some r→r.length = cells.length
  | [],cells,r,h=>by cases h; rfl
  | (i,v) :: parts,cells,r,h=>by
    simp only [fillL] at h
    split at h
    · cases h
    · split at h
      · cases h
      · rw [fillL_length h,setRange_length]
theorem slice_of_pin {g:Gh} {c:Nat} {agg:Bool} {s n cap:Nat} {cs:List AV} {tok:Tok} (hs:agg = true ∨ s = 1) (hl:cs.length = n * s) (hst:stillL cs = true) (hcap:n ≤ cap)
    (hp:∀ i a,cs[i]? = some a→g.Γ c i a) (ht:TokOk g n c 0 cap tok):V g (.slice tok s (chunk agg s n cs)) (.slice (some ⟨c,0,none⟩) n cap):=by
  obtain ⟨k1,k2⟩:=chunk_cells hs n cs hl (stillL_all hst)
  simp only [V]
  refine .inr ⟨c,0,cap,by rw [chunk_length],by rw [chunk_length]; exact hcap,k2,?_,by rw [chunk_length]; exact ht⟩
  rw [k1]
  intro i a ha
  rw [Nat.zero_add]; exact ⟨hp i a ha,(still_nil hst i a ha).2.2⟩
theorem good_buildSlice {P:Program} {tb:List TI} (hP:TbOk P tb) {g:Gh} {H:Heap} {a:Act} {w:World} {F:Oid→Prop} {o:Oper} (hw:WC g H w) {t:TypeId} {len:Nat} {parts:List (Nat × AV)} {r:AV}
    (h:evBuildSlice tb t len parts = some r) {vparts:Array (Nat × Value)} (hp:PV g parts vparts.toList)
    (hex:execOp a.eval o = vOf (Instr.buildSlice t len vparts)):OpGood P g H a w F o { v:=r }:=by
  unfold evBuildSlice at h
  split at h
  · rename_i e hd
    obtain ⟨_,_,_,d',h1,h2⟩:=descOf_some hP hd
    cases ofDesc_slice h2
    split at h
    · rename_i te hte
      split at h
      · cases h
      rename_i hcond
      have c1:¬ len * te.size > 16777216:=fun x=>hcond (.inl x)
      have c2:te.zero.length = te.size:=Decidable.byContradiction fun x=>hcond (.inr (.inl x))
      have c3:te.size ≠ 0:=fun x=>hcond (.inr (.inr (.inl x)))
      have c4:te.agg = true ∨ te.size = 1:=by
        cases ha:te.agg with
        | true=>exact .inl rfl
        | false=>exact .inr (Decidable.byContradiction fun x=>hcond (.inr (.inr (.inr ⟨ha,x⟩))))
      have hze:te.zero.isEmpty = false:=by
        cases hq:te.zero with
        | nil=>rw [hq] at c2; simp at c2; omega
        | cons x y=>rfl
      obtain ⟨i,z,k1,k2,k3,k4⟩:=zero_some (hP.facts hte) hze
      split at h
      · rename_i cells hcells
        split at h
        · rename_i hst
          cases h
          have hzl:z.cells.size = te.size:=by rw [← c2,k4]; simp
          have hz0:VL g (List.replicate len te.zero).flatten ((Array.range (len * te.size)).map (fun j=>(if len * te.size = 0 then (#[]:Array Value) else z.cells)[j % (if len * te.size = 0 then (#[]:Array Value) else z.cells).size]!)).toList:=by
            refine VL.of_get (by simp [c2]) fun j x v hx hv=>?_
            rw [flatten_get _ (by intro hq; rw [hq] at hze; simp at hze)] at hx
            split at hx
            · rename_i hj
              rw [c2] at hx hj
              simp only [Array.toList_map,Array.toList_range,List.getElem?_map,List.getElem?_range hj,Option.map_some,Option.some.injEq] at hv
              rw [if_neg (by omega),hzl] at hv
              subst hv
              rw [k4,List.getElem?_map,Array.getElem?_toList] at hx
              have hmod:j % te.size < z.cells.size:=by rw [hzl]; exact Nat.mod_lt _ (by omega)
              rw [Array.getElem?_eq_getElem hmod] at hx
              simp only [Option.map_some,Option.some.injEq] at hx
              subst hx
              rw [getElem!_pos z.cells _ hmod]
              exact V_ofCell g _
            · cases hx
          obtain ⟨out,o1,o2,o3⟩:=run_fill (place:=fun i=>some (i * te.size,te.size)) hp hz0 hcells
          have hcl:=VL.clean cells _ o2
          have hlen:(cleanL cells).length = len * te.size:=by rw [cleanL_length,fillL_length hcells]; simp [c2]
          obtain ⟨n1,n2⟩:=hw.newPin (cleanL cells) out e (by rw [List.take_of_length_le (by rw [← hcl.length]; exact Nat.le_refl _)]; exact hcl) hst
          refine OpGood.value (v:=.slice (some ⟨w.heap.size,0,none⟩) len len) (w':=w.alloc (.cells out e)) (g':=g.pinAt w.heap.size (cleanL cells)) ?_ ⟨?_,n1,Keep.pinAt hw _ _,n2⟩
          · rw [hex]
            refine run_v ?_
            unfold Instr.buildSlice
            simp only [run_bind2,run_under h1,Result.andThen_ok,(hP.facts hte).size]
            rw [if_neg c1]
            by_cases hz:len * te.size = 0
            · simp only [if_pos hz] at o1 ⊢
              simp only [run_bind2,run_pure2,Result.andThen_ok]
              rw [o1]; rfl
            · simp only [if_neg hz] at o1 ⊢
              simp only [run_bind2,run_zero k1 k2,run_pure2,Result.andThen_ok]
              rw [o1]; rfl
          · exact slice_of_pin c4 hlen hst (Nat.le_refl _) (fun i a ha=>by simp only [Gh.pinAt,if_true]; exact ha) rfl
        · cases h
      · cases h
    · cases h
  · cases h
theorem V.keepTok {g:Gh} (o:Oid) (j:Nat) {a:AV} {v:Value} (h:V g a v):V g (keepTok o j a) v:=by
  unfold AE.keepTok
  split
  · split
    · exact h
    · exact V.clean _ _ h
  · exact V.clean _ _ h
theorem VL.keepToks {g:Gh} (o:Oid):∀ {as:List AV} {vs:List Value} (j:Nat),VL g as vs→VL g (AE.keepToks o j as) vs
  | [],_,_,h=>h
  | a :: as,_,j,h=>by
    obtain ⟨v,vs,rfl,h1,h2⟩:=h
    exact ⟨v,vs,rfl,V.keepTok o j h1,VL.keepToks o (j + 1) h2⟩
theorem keepToks_length (o:Oid):∀ (as:List AV) (j:Nat),(keepToks o j as).length = as.length
  | [],_=>rfl
  | a :: as,j=>by simp [keepToks,keepToks_length o as]
theorem all_cellOk {g:Gh}:∀ {as:List AV} {vs:List Value},VL g as vs→as.all cellOk = true→∀ v ∈ vs,v.oneCell' = true
  | [],_,h,_,v,hv=>by simp [VL] at h; subst h; simp at hv
  | a :: as,_,h,hc,v,hv=>by
    obtain ⟨u,us,rfl,h1,h2⟩:=h
    simp only [List.all_cons,Bool.and_eq_true] at hc
    rcases List.mem_cons.1 hv with rfl | hv
    · exact h1.one hc.1
    · exact all_cellOk h2 hc.2 v hv
theorem noUndef_of_cells {a:AV} (h:(cellsOf a).all cellOk = true):noUndef a = true:=by cases a <;> simp_all [cellsOf,cellOk,noUndef]
theorem VL.keptToks {g:Gh} (kt:Bool) (o:Oid) {as:List AV} {vs:List Value} (j:Nat) (h:VL g as vs):VL g (AE.keptToks kt o j as) vs:=by
  unfold AE.keptToks; split
  · exact h
  · exact VL.keepToks o j h
theorem keptToks_length (kt:Bool) (o:Oid) (as:List AV) (j:Nat):(keptToks kt o j as).length = as.length:=by
  unfold keptToks; split
  · rfl
  · exact keepToks_length o as j
theorem good_store {P:Program} {tb:List TI} (hP:TbOk P tb) {g:Gh} {G H:Heap} {a:Act} {w:World} {F:Oid→Prop} {o:Oper} (hw:WC g H w) {t:TypeId} {ad x:AV} {r:OpR}
    {kt:Bool} (h:evStore tb kt G t ad x = some r) (hag:Agree r G H) {vad vx:Value} (ha:V g ad vad) (hx:V g x vx) (hex:execOp a.eval o = (do Instr.storeAt t vad vx; Pure.pure Next.skip:Sem Next)):OpGood P g H a w F o r:=by
  unfold evStore at h
  split at h
  · rename_i ti b off hti
    split at h
    · rename_i cs hbG
      split at h
      · rename_i hcond
        obtain ⟨c1,c2,c3,c4⟩:=hcond
        cases h
        have hb:find H b = some (.cells .rw cs):=by rw [← hag b ⟨b,by simp,rfl⟩]; exact hbG
        obtain ⟨c,hc,rfl⟩:=ha
        obtain ⟨c',k1,⟨vs,e,k2,k3⟩,k4⟩:=hw.objs b _ hb
        rw [hc] at k1; cases k1
        have hcl:=hx.cells (noUndef_of_cells c4)
        have hsz:vx.cells.size = ti.size:=by rw [← c1,← hcl.length]; simp
        have hvs:vs.size = cs.length:=by rw [← k3.length]; simp
        have hrow:=run_storeCells_at (P:=P) c off e vx.cells.toList 0 vs w k2 (by rw [hvs]; simpa [hcl.length] using c2) (all_cellOk hcl c4)
        have hv':VL g (setRange cs off (keptToks kt b off (cellsOf x))) (vs.toList.take off ++ vx.cells.toList ++ vs.toList.drop (off + vx.cells.toList.length)).toArray.toList:=by
          have:=VL.setRange (VL.keptToks kt b off hcl) off k3 (by rw [keptToks_length]; exact c2)
          simpa using this
        obtain ⟨n1,n2⟩:=hw.store hb hc k2 k4 _ hv'
        refine OpGood.skip (w':=_) (g':=g) ?_ ⟨?_,n1,Keep.refl _ _,n2⟩
        · rw [hex,run_bind2]
          unfold Instr.storeAt storeVar
          simp only [run_bind2,Instr.sureAddr,run_pure2,Result.andThen_ok,(hP.facts hti).size]
          rw [if_neg (by simp [hsz])]
          rw [hrow]
          simp only [Result.andThen_ok,Nat.add_zero]
        · exact ⟨#[],rfl,rfl⟩
      · cases h
    · cases h
  · cases h
theorem VL.growCells {g:Gh} (o:Oid):∀ (l:List (Nat × Nat)) (cs:List AV) (ts:List (Oid × Ob)) {vs:List Value},VL g cs vs →
    VL g (l.foldl (fun (r:List AV × List (Oid × Ob)) (js:Nat × Nat)=>match r.1[js.1]? with
      | some .nils=>(r.1.set js.1 (.slice (.buf (.cl o js.1)) js.2 []),r.2 ++ [(.cl o js.1,.buf js.2 0)])
      | _=>r) (cs,ts)).1 vs
  | [],cs,ts,vs,h=>h
  | js :: l,cs,ts,vs,h=>by
    rw [List.foldl_cons]
    split
    · rename_i hn
      refine VL.growCells o l _ _ ?_
      refine VL.of_get (by simp [h.length]) fun i x v hx hv=>?_
      rw [List.getElem?_set] at hx
      split at hx
      · rename_i e
        subst e
        split at hx
        · cases hx
          obtain ⟨u,k1,k2⟩:=h.get _ _ hn
          rw [k1] at hv; cases hv
          simp only [V] at k2 ⊢
          exact .inl ⟨.inl k2,trivial⟩
        · cases hx
      · obtain ⟨u,k1,k2⟩:=h.get i x hx
        rw [k1] at hv; cases hv; exact k2
    · exact VL.growCells o l cs ts h
theorem growCells_toks (o:Oid):∀ (l:List (Nat × Nat)) (cs:List AV) (ts:List (Oid × Ob)),(∀ x ∈ ts,∃ j s,x = (.cl o j,.buf s 0)) →
    ∀ x ∈ (l.foldl (fun (r:List AV × List (Oid × Ob)) (js:Nat × Nat)=>match r.1[js.1]? with
      | some .nils=>(r.1.set js.1 (.slice (.buf (.cl o js.1)) js.2 []),r.2 ++ [(.cl o js.1,.buf js.2 0)])
      | _=>r) (cs,ts)).2,∃ j s,x = (.cl o j,.buf s 0)
  | [],cs,ts,h=>h
  | js :: l,cs,ts,h=>by
    rw [List.foldl_cons]
    split
    · refine growCells_toks o l _ _ ?_
      intro x hx
      rcases List.mem_append.1 hx with hx | hx
      · exact h x hx
      · simp at hx; subst hx; exact ⟨_,_,rfl⟩
    · exact growCells_toks o l cs ts h
mutual
theorem refs_clean:∀ a:AV,refs (clean a) = refs a
  | .slice tok s es=>by cases tok <;> rfl
  | .fn f a b=>by simp only [clean,refs,refsL_clean a,refsL_clean b]
  | .iface t v=>by simp only [clean,refs,refs_clean v]
  | .agg cs=>by simp only [clean,refs,refsL_clean cs]
  | .tuple vs=>by simp only [clean,refs,refsL_clean vs]
  | .undef=>rfl
  | .bool _=>rfl
  | .int _ _=>rfl
  | .str _=>rfl
  | .nilp=>rfl
  | .ptr _ _=>rfl
  | .pin _=>rfl
  | .nils=>rfl
  | .mref _ _ _ _ _=>rfl
  | .nilm=>rfl
  | .mapr _=>rfl
  | .mapf _ _=>rfl
  | .nilf=>rfl
  | .nili=>rfl
theorem refsL_clean:∀ as:List AV,refsL (cleanL as) = refsL as
  | []=>rfl
  | a :: as=>by simp only [cleanL,refsL,refs_clean a,refsL_clean as]
end
mutual
theorem toks_clean:∀ a:AV,toks (clean a) = []
  | .slice tok s es=>by cases tok <;> rfl
  | .fn f a b=>by simp only [clean,toks,toksL_clean a,toksL_clean b]; rfl
  | .iface t v=>by simp only [clean,toks,toks_clean v]
  | .agg cs=>by simp only [clean,toks,toksL_clean cs]
  | .tuple vs=>by simp only [clean,toks,toksL_clean vs]
  | .undef=>rfl
  | .bool _=>rfl
  | .int _ _=>rfl
  | .str _=>rfl
  | .nilp=>rfl
  | .ptr _ _=>rfl
  | .pin _=>rfl
  | .nils=>rfl
  | .mref _ _ _ _ _=>rfl
  | .nilm=>rfl
  | .mapr _=>rfl
  | .mapf _ _=>rfl
  | .nilf=>rfl
  | .nili=>rfl
theorem toksL_clean:∀ as:List AV,toksL (cleanL as) = []
  | []=>rfl
  | a :: as=>by simp only [cleanL,toksL,toks_clean a,toksL_clean as]; rfl
end
theorem good_box {P:Program} {g:Gh} {H:Heap} {a:Act} {w:World} {o:Oper} (hw:WC g H w) {d:Nat} (hd:ClearH d H) {acc:List (Nat × Nat)} {cs:List AV} {r:OpR}
    {kt:Bool} (h:evBox kt acc d cs = some r) {vs:Array Value} (hv:VL g cs vs.toList) (e:TypeId)
    (hex:(execOp a.eval o).run P w = .ok (.value (.pointer (some ⟨w.heap.size,0,none⟩))) (w.alloc (.cells vs e))):OpGood P g H a w (fun x=>rooted d x = true) o r:=by
  unfold evBox at h
  simp only at h
  split at h
  · cases h
  rename_i hr
  cases h
  have hoff:OffL (fun x=>rooted d x = true) (boxToks kt cs):=by
    refine ⟨fun b hb hroot=>?_,fun b hb hroot=>?_⟩
    · have hb:b ∈ refsL cs:=by
        unfold boxToks at hb
        split at hb
        · exact hb
        · rw [refsL_clean] at hb; exact hb
      exact hr (List.any_eq_true.2 ⟨b,List.mem_append_left _ hb,by simpa [rooted] using hroot⟩)
    · exact hr (List.any_eq_true.2 ⟨b,List.mem_append_right _ hb,by simpa [rooted] using hroot⟩)
  have hvb:VL g (boxToks kt cs) vs.toList:=by
    unfold boxToks
    split
    · exact hv
    · exact VL.clean cs _ hv
  obtain ⟨g',k1,k2,k3,k4⟩:=hw.newObj hd (growCells (.loc d) acc (boxToks kt cs)).1 vs e (growCells (.loc d) acc (boxToks kt cs)).2
    (growCells_toks (.loc d) acc (boxToks kt cs) [] (by simp))
    (fun g' hk _=>VL.growCells (.loc d) acc (boxToks kt cs) [] (hk.VL hoff hvb))
  exact OpGood.value hex ⟨k1,k2,k3,k4⟩
theorem WC.newRow {g:Gh} {H:Heap} {w w':World} (h:WC g H w) (cs:List AV) (vs:Array Value) (e:TypeId) (fz:Nat × Nat) (hv:VL g cs (vs.toList.take cs.length)) (hs:stillL cs = true)
    (hold:∀ j,j < w.heap.size→w'.heap[j]? = w.heap[j]?) (hnew:w'.heap[w.heap.size]? = some (.cells vs e fz)) (hsz:w.heap.size ≤ w'.heap.size) (hos:w'.os = w.os) (hout:w'.output = w.output) (htape:w'.tape = w.tape) :
    WC (g.pinAt w.heap.size cs) H w'∧Ctx w g H (g.pinAt w.heap.size cs) H w':=by
  have hk:=Keep.pinAt h cs (fun _=>False)
  simp only [stillL,Bool.and_eq_true,List.isEmpty_iff,List.all_eq_true] at hs
  obtain ⟨⟨hr,ht⟩,hc⟩:=hs
  have hoff:OffL (fun _=>True) cs:=⟨by simp [hr],by simp [ht]⟩
  have hnil:∀ (i:Nat) a,cs[i]? = some a→refs a = []∧toks a = []:=by
    intro i a ha
    have:=OffL.get hoff ha
    exact ⟨List.eq_nil_iff_forall_not_mem.2 fun b hb=>this.1 b hb trivial,List.eq_nil_iff_forall_not_mem.2 fun b hb=>this.2 b hb trivial⟩
  refine ⟨⟨h.tip,fun c o a ha=>?_,fun b ob hb=>?_,h.inj⟩,⟨hsz,fun c hc _=>⟨hold c hc,fun o=>by simp only [Gh.pinAt]; rw [if_neg (by omega)]⟩,hk.gam,fun c hl=>.inl hl,fun c hl=>.inl hl,hos,hout,htape⟩⟩
  · simp only [Gh.pinAt] at ha
    split at ha
    · rename_i he; subst he
      obtain ⟨v,h1,h2⟩:=hv.get o a ha
      obtain ⟨n1,n2⟩:=hnil o a ha
      refine .inl ⟨hc a (List.mem_of_getElem? ha),v,?_,hk.V (Off.none _) h2,n1,n2⟩
      rw [cell_of_block hnew,← Array.getElem?_toList]
      rw [List.getElem?_take] at h1
      split at h1 <;> simp_all
    · exact hk.pinOk (h.pin c o a ha) (hold c (h.lt ha))
  · have h1:=h.objs b ob hb
    cases ob with
    | cells wr cs'=>
      obtain ⟨c,k1,k2,k4⟩:=h1
      have hlt:=k2.lt
      exact ⟨c,k1,hk.body (OffL.none _) (hold c hlt) k2,fun o=>by simp only [Gh.pinAt]; rw [if_neg (by omega)]; exact k4 o⟩
    | buf s n=>
      intro c cap hcb
      obtain ⟨us,e',k2,k3,k5,k4⟩:=h1 c cap hcb
      have hlt:=(Array.getElem?_eq_some_iff.1 k2).1
      exact ⟨us,e',by rw [hold c hlt]; exact k2,k3,k5,fun o ho=>by simp only [Gh.pinAt]; rw [if_neg (by omega)]; exact k4 o ho⟩
theorem still_bytes:∀ l:List UInt8,stillL (l.map fun b=>AV.int .u8 b.toNat) = true∧(l.map fun b=>AV.int .u8 b.toNat).flatMap cellsOf = l.map fun b=>AV.int .u8 b.toNat
  | []=>⟨rfl,rfl⟩
  | b :: r=>by
    obtain ⟨h1,h2⟩:=still_bytes r
    simp only [stillL,Bool.and_eq_true,List.isEmpty_iff] at h1 ⊢
    refine ⟨⟨⟨by simp [refsL,refs,h1.1.1],by simp [toksL,toks,h1.1.2]⟩,by simp only [List.map_cons,List.all_cons,h1.2]; rfl⟩,?_⟩
    simp only [List.map_cons,List.flatMap_cons,h2]; rfl
theorem vl_bytes (g:Gh):∀ l:List UInt8,VL g (l.map fun b=>AV.int .u8 b.toNat) (l.map fun b=>Value.int .u8 b.toNat)
  | []=>rfl
  | b :: r=>⟨_,_,rfl,rfl,vl_bytes g r⟩
theorem run_evBytes {P:Program} {tb:List TI} (hP:TbOk P tb) {s d e:TypeId} {x:AV} {l:List UInt8} (h:evBytes tb s d x = some (e,l)):x = .str l∧P.underlying s = some .string∧P.underlying d = some (.slice e)∧P.underlying e = some (.int .u8):=by
  unfold evBytes at h
  split at h
  · rename_i e' l' h1 h2
    split at h
    · rename_i h3
      cases h
      obtain ⟨_,_,_,d1,a1,a2⟩:=descOf_some hP h1
      obtain ⟨_,_,_,d2,b1,b2⟩:=descOf_some hP h2
      obtain ⟨_,_,_,d3,c1,c2⟩:=descOf_some hP h3
      cases ofDesc_string a2
      cases ofDesc_slice b2
      cases ofDesc_int c2
      exact ⟨rfl,a1,b1,c1⟩
    · cases h
  · cases h
theorem good_bytes {P:Program} {tb:List TI} (hP:TbOk P tb) {g:Gh} {H:Heap} {a:Act} {w:World} {F:Oid→Prop} {o:Oper} (hw:WC g H w) {s d e:TypeId} {l:List UInt8} {xv:Value} {x:AV} (hb:evBytes tb s d x = some (e,l)) (hv:V g x xv)
    (hex:execOp a.eval o = vOf (convert s d xv)):OpGood P g H a w F o { v:=.slice .none 1 (l.map fun b=>.int .u8 b.toNat) }:=by
  obtain ⟨rfl,u1,u2,u3⟩:=run_evBytes hP hb
  simp only [V] at hv
  subst hv
  have hrun:=Lib.run_convert_string_bytes (P:=P) w s d e ⟨l.toArray⟩ u1 u2 u3
  have hsz:(⟨l.toArray⟩:ByteArray).size = l.length:=rfl
  have hcap:=grownCap_ge w l.length 0 e
  obtain ⟨st1,st2⟩:=still_bytes l
  have hcells:(Lib.bytesCells w e ⟨l.toArray⟩).toList.take (l.map fun b=>AV.int .u8 b.toNat).length = l.map fun b=>Value.int .u8 b.toNat:=by
    unfold Lib.bytesCells
    rw [Array.toList_append,List.take_append_of_le_length (by simp)]
    simp only [List.length_map,Array.toList_map]
    exact List.take_of_length_le (by simp)
  obtain ⟨n1,n2⟩:=hw.newRow (w':=Lib.bytesWorld w e ⟨l.toArray⟩) (l.map fun b=>AV.int .u8 b.toNat) (Lib.bytesCells w e ⟨l.toArray⟩) e _ (by rw [hcells]; exact vl_bytes g l) st1
    (fun j hj=>Lib.bytesWorld_at_old w e _ j hj) (Lib.bytesWorld_at_new w e _) (by rw [Lib.bytesWorld_size]; omega) rfl rfl rfl
  refine OpGood.value (v:=.slice (some ⟨w.heap.size,0,none⟩) l.length (grownCap w l.length 0 e)) (w':=Lib.bytesWorld w e ⟨l.toArray⟩) (g':=g.pinAt w.heap.size (l.map fun b=>AV.int .u8 b.toNat)) ?_ ⟨?_,n1,Keep.pinAt hw _ _,n2⟩
  · rw [hex]
    exact run_v hrun
  · simp only [V]
    refine .inr ⟨w.heap.size,0,grownCap w l.length 0 e,by simp,by simp; exact hcap,fun x hx=>?_,?_,trivial⟩
    · obtain ⟨b,_,rfl⟩:=List.mem_map.1 hx
      rfl
    · rw [st2]
      intro i x hx
      simp only [Gh.pinAt,if_true,Nat.zero_add]
      exact ⟨hx,(still_nil st1 i x hx).2.2⟩
end Go.Proofs.YtjojaiomgdjhfaaGreatDoor.AE
namespace Go.Proofs.YtjojaiomgdjhfaaGreatDoor.AE
open Go
theorem WC.congr {g:Gh} {H H':Heap} {w:World} (h:WC g H w) (e:∀ x,find H' x = find H x):WC g H' w:=by
  refine ⟨fun b=>?_,h.pin,fun b ob hb=>h.objs b ob (by rw [← e]; exact hb),fun b b' ob ob' c h1 h2=>h.inj b b' ob ob' c (by rw [← e]; exact h1) (by rw [← e]; exact h2)⟩
  rw [h.tip]; simp only [tipOf,e]
theorem Live.congr {g:Gh} {H H':Heap} (e:∀ x,find H' x = find H x) {c:Nat} (h:Live g H' c):Live g H c:=by
  obtain ⟨b,ob,h1,h2⟩:=h
  exact ⟨b,ob,by rw [← e]; exact h1,h2⟩
theorem Used.congr {g:Gh} {H H':Heap} (e:∀ x,find H' x = find H x) {c:Nat} (h:Used g H' c):Used g H c:=by
  obtain ⟨b,ob,h1,h2⟩:=h
  exact ⟨b,ob,by rw [← e]; exact h1,h2⟩
theorem Ctx.congr {w0 w:World} {g0 g:Gh} {H0 H H':Heap} (h:Ctx w0 g0 H0 g H w) (e:∀ x,find H' x = find H x):Ctx w0 g0 H0 g H' w :=
  ⟨h.size,h.keep,h.gam,fun c hl=>h.own c (hl.congr e),fun c hl=>h.usd c (hl.congr e),h.os,h.out,h.tape⟩
theorem find_ins_same {H:Heap} {b:Oid} {ob:Ob} (h:find H b = some ob) (x:Oid):find (ins b ob H) x = find H x:=by
  rw [find_ins]; split
  · rename_i e; subst e; exact h.symm
  · rfl
theorem Ctx.moved {w0 w:World} {g0 g:Gh} {H0 H:Heap} (h:Ctx w0 g0 H0 g H w) (b:Oid) (s n:Nat) (p:Option (Nat × Nat)) (hp:∀ c cap,p = some (c,cap)→Live g0 H0 c ∨ w0.heap.size ≤ c) :
    Ctx w0 g0 H0 (g.moved b p (ins b (.buf s n) H)) (ins b (.buf s n) H) w:=by
  refine ⟨h.size,h.keep,h.gam,fun c hl=>?_,fun c hl=>?_,h.os,h.out,h.tape⟩
  obtain ⟨x,ob,h1,h2⟩:=hl
  rw [find_ins] at h1
  split at h1
  · rename_i e; subst e; cases h1
    simp only [ownOf,Gh.moved,if_true] at h2
    cases p with
    | none=>cases h2
    | some q=>obtain ⟨c2,cap⟩:=q; simp at h2; subst h2; exact hp c2 cap rfl
  · rename_i hne
    refine h.own c ⟨x,ob,h1,?_⟩
    cases ob with
    | cells wr cs2=>cases wr <;> exact h2
    | buf s2 n2=>simp only [ownOf,Gh.moved] at h2 ⊢; rw [if_neg (Ne.symm hne)] at h2; exact h2
  · obtain ⟨x,ob,h1,h2⟩:=hl
    rw [find_ins] at h1
    split at h1
    · rename_i e; subst e; cases h1
      simp only [blockOf,Gh.moved,if_true] at h2
      cases p with
      | none=>cases h2
      | some q=>obtain ⟨c2,cap⟩:=q; simp at h2; subst h2; exact (hp c2 cap rfl).imp Live.used id
    · rename_i hne
      refine h.usd c ⟨x,ob,h1,?_⟩
      cases ob with
      | cells wr cs2=>exact h2
      | buf s2 n2=>simp only [blockOf,Gh.moved] at h2 ⊢; rw [if_neg (Ne.symm hne)] at h2; exact h2
structure Src (P:Program) (g:Gh) (w:World) (x:Value) (sz:Nat) (ys:List AV):Prop where
  ex:∃ us:List Value,VL g (ys.flatMap cellsOf) us∧(Builtin.firstCells sz ys.length x).run P w = .ok us.toArray w
  len:(Builtin.lenOf x).run P w = .ok ys.length w
  still:stillL (ys.flatMap cellsOf) = true
  each:∀ e ∈ ys,(cellsOf e).length = sz
theorem flat_length {s:Nat}:∀ {es:List AV},(∀ e ∈ es,(cellsOf e).length = s)→(es.flatMap cellsOf).length = es.length * s
  | [],_=>by simp
  | e :: r,h=>by
    rw [List.flatMap_cons,List.length_append,h e (by simp),flat_length fun x hx=>h x (by simp [hx]),List.length_cons,Nat.add_mul]
    omega
theorem stillL_of {cs:List AV} (h:∀ (i:Nat) a,cs[i]? = some a→refs a = []∧toks a = []∧cellOk a = true):stillL cs = true:=by
  have hall:∀ a ∈ cs,refs a = []∧toks a = []∧cellOk a = true:=fun a ha=>by
    obtain ⟨i,hi⟩:=List.getElem?_of_mem ha
    exact h i a hi
  have hoff:OffL (fun _=>True) cs:=OffL.of_all fun a ha=>Off.of_nil (hall a ha).1 (hall a ha).2.1
  simp only [stillL,Bool.and_eq_true,List.isEmpty_iff,List.all_eq_true]
  exact ⟨⟨List.eq_nil_iff_forall_not_mem.2 fun b hb=>hoff.1 b hb trivial,List.eq_nil_iff_forall_not_mem.2 fun b hb=>hoff.2 b hb trivial⟩,fun a ha=>(hall a ha).2.2⟩
theorem run_cells {P:Program} {g:Gh} {H:Heap} {w:World} (hw:WC g H w) {c off:Nat} {cs:List AV} (hp:Pinned g c off cs) {n:Nat} (hn:cs.length = n) :
    ∃ us:List Value,VL g cs us∧(loadCells ⟨c,off,none⟩ n).run P w = .ok us.toArray w:=by
  subst hn
  have hall:∀ (cs:List AV) (off:Nat),Pinned g c off cs→∃ us:List Value,VL g cs us∧∀ (j:Nat) v,us[j]? = some v→w.cell? ⟨c,off + j,none⟩ = some v:=by
    intro cs
    induction cs with
    | nil=>intro off _; exact ⟨[],rfl,by simp⟩
    | cons a r ih=>
      intro off hp
      obtain ⟨v,h1,h2,_⟩:=(hw.pin c off a (by have:=(hp 0 a (by simp)).1; simpa using this)).cell (hp 0 a (by simp)).2
      obtain ⟨us,k1,k2⟩:=ih (off + 1) fun i x hx=>by
        have:=hp (i + 1) x (by simpa using hx)
        rw [Nat.add_assoc,Nat.add_comm 1 i]; exact this
      refine ⟨v :: us,⟨v,us,rfl,h2,k1⟩,fun j u hu=>?_⟩
      cases j with
      | zero=>simp at hu; subst hu; simpa using h1
      | succ j=>simp at hu; have:=k2 j u hu; rw [Nat.add_assoc,Nat.add_comm 1 j] at this; exact this
  obtain ⟨us,k1,k2⟩:=hall cs off hp
  refine ⟨us,k1,?_⟩
  rw [← k1.length]
  exact run_loadCells_list w ⟨c,off,none⟩ us fun j v hv=>by rw [add_eq]; exact k2 j v hv
theorem run_cells_none {P:Program} {size:Nat} (p:Option Addr) (cap:Nat) (w:World):(Builtin.firstCells size 0 (.slice p 0 cap)).run P w = .ok #[] w:=by
  cases p with
  | none=>rfl
  | some a=>
    simp only [Builtin.firstCells,Nat.zero_mul]
    rfl
theorem pinned_still {g:Gh} {H:Heap} {w:World} (hw:WC g H w) {c off:Nat} {cs:List AV} (hp:Pinned g c off cs):stillL cs = true :=
  stillL_of fun i a ha=>by
    obtain ⟨v,_,_,h3,h4⟩:=(hw.pin c (off + i) a (hp i a ha).1).cell (hp i a ha).2
    exact ⟨h3,h4,(hp i a ha).2⟩
theorem src_of {P:Program} {g:Gh} {H:Heap} {w:World} (hw:WC g H w) {x:AV} {ys:List AV} {sz:Nat} (h:srcOf x = some ys) (hok:srcOk sz x = true) {v:Value} (hv:V g x v):Src P g w v sz ys:=by
  unfold srcOf at h
  split at h
  · cases h
    simp only [srcOk,beq_iff_eq] at hok; subst hok
    simp only [V] at hv
    rcases hv with ⟨hb,rfl⟩ | ⟨c,off,cap,rfl,k1,k2,k3,k4⟩
    · obtain ⟨p,cap,rfl⟩:=hb.slice
      exact ⟨⟨[],rfl,run_cells_none p cap w⟩,rfl,rfl,by simp⟩
    · obtain ⟨us,h1,h2⟩:=run_cells (P:=P) hw k3 (flat_length k2)
      exact ⟨⟨us,h1,h2⟩,rfl,pinned_still hw k3,k2⟩
  · cases h
    simp only [V] at hv; subst hv
    exact ⟨⟨[],rfl,rfl⟩,rfl,rfl,by simp⟩
  · rename_i s
    cases h
    simp only [srcOk,beq_iff_eq] at hok; subst hok
    simp only [V] at hv; subst hv
    have hfl:(ofBytes s).flatMap cellsOf = ofBytes s:=by
      unfold ofBytes
      induction s with
      | nil=>rfl
      | cons b r ih=>simp only [List.map_cons,List.flatMap_cons,ih,cellsOf]; rfl
    have hlen:(ofBytes s).length = s.length:=by simp [ofBytes]
    refine ⟨⟨s.map fun b=>.int .u8 b.toNat,?_,?_⟩,?_,?_,?_⟩
    · rw [hfl]
      unfold ofBytes
      refine VL.of_get (by simp) fun i a v ha hv=>?_
      rw [List.getElem?_map] at ha hv
      cases hs:s[i]? with
      | none=>rw [hs] at ha; cases ha
      | some b=>rw [hs] at ha hv; cases ha; cases hv; rfl
    · rw [hlen]
      unfold Builtin.firstCells
      rw [run_pure2]
      congr 1
      rw [extract_mk]
      apply Array.ext'
      simp
    · rw [hlen]
      unfold Builtin.lenOf
      rw [run_pure2,size_mk]
    · rw [hfl]
      refine stillL_of fun i a ha=>?_
      unfold ofBytes at ha
      rw [List.getElem?_map] at ha
      cases hs:s[i]? with
      | none=>rw [hs] at ha; cases ha
      | some b=>rw [hs] at ha; cases ha; exact ⟨rfl,rfl,rfl⟩
    · intro e he
      unfold ofBytes at he
      obtain ⟨b,_,rfl⟩:=List.mem_map.1 he
      rfl
  · cases h
theorem growBy_le (need:Nat):∀ (rounds c:Nat),c < need→Builtin.growBy need rounds c ≤ 2 * need + 200
  | 0,c,h=>by simp only [Builtin.growBy]; omega
  | r + 1,c,h=>by
    simp only [Builtin.growBy]
    rw [if_neg (by omega)]
    by_cases hc:c + (c + 768) / 4 < need
    · exact growBy_le need r _ hc
    · have:∀ r,Builtin.growBy need r (c + (c + 768) / 4) = c + (c + 768) / 4:=by
        intro r
        cases r with
        | zero=>rfl
        | succ r=>simp only [Builtin.growBy]; rw [if_pos (by omega)]
      rw [this]; omega
theorem nextcap_le {need cap:Nat} (h:cap < need):Builtin.nextslicecap need cap ≤ 2 * need + 200:=by
  unfold Builtin.nextslicecap
  split
  · omega
  · split
    · omega
    · exact growBy_le need 4 cap h
theorem run_grow {P:Program} {g:Gh} {w:World} {t u e:TypeId} {te:TI} (h1:P.underlying t = some (.slice e)) (hte:TyFacts P e te) (hze:te.zero.isEmpty = false) (hzl:te.zero.length = te.size)
    {du:TypeDesc} (h2:P.underlying u = some du) (hdu:(∃ q,du = .slice q) ∨ du = .string) {base:Option Addr} {len cap:Nat} {x:Value} {m:Nat} {old news:List Value} {args:List Value} {ats:List TypeId}
    (hargs:args = .slice base len cap :: x :: args.drop 2) (hats:ats = t :: u :: ats.drop 2)
    (hold:(Builtin.firstCells te.size len (.slice base len cap)).run P w.drew = .ok old.toArray w.drew) (hlen:(Builtin.lenOf x).run P w = .ok m w)
    (hnew:(Builtin.firstCells te.size m x).run P w.drew = .ok news.toArray w.drew) (hgrow:cap < len + m) (hroom:roomy te.bytes (len + m) = true) (ty:TypeId) :
    ∃ newCap rest,len + m ≤ newCap∧rest.size = (newCap - (len + m)) * te.size∧(Builtin.append_ ats.toArray ty args.toArray).run P w = .ok (.slice (some ⟨w.heap.size,0,none⟩) (len + m) newCap) (w.drew.alloc (.cells (old.toArray ++ news.toArray ++ rest) e)):=by
  obtain ⟨i,z,k1,k2,k3,k4⟩:=zero_some hte hze
  obtain ⟨i',d',k1',_,_,_,k6,_⟩:=hte.ex
  rw [k1] at k1'; cases k1'
  simp only [roomy,decide_eq_true_eq] at hroom
  obtain ⟨r1,r2⟩:=hroom
  have hbig:len + m ≤ 140737488355328:=by
    have:(2 * (len + m) + 1024) * 1 ≤ (2 * (len + m) + 1024) * te.bytes:=Nat.mul_le_mul_left _ r1
    omega
  have hnc:Builtin.nextslicecap (len + m) cap * i.bytes ≤ 140737488355328:=by
    rw [← k6]
    refine Nat.le_trans (Nat.mul_le_mul_right _ (nextcap_le hgrow)) (Nat.le_trans (Nat.mul_le_mul_right _ ?_) r2)
    omega
  let newCap:=(Question.appendCap (len + m) cap e).cut (w.tape w.drawn (Question.appendCap (len + m) cap e))
  have hcap:len + m ≤ newCap:=by simp only [newCap,Question.cut]; omega
  have hz:z.cells.size = te.size ∨ True:=.inr trivial
  refine ⟨newCap,Builtin.zeroCells z.cells (newCap - (len + m)),hcap,?_,?_⟩
  · have:z.cells.size = te.size:=by rw [← hzl,k4]; simp
    simp [Builtin.zeroCells,this]
  · unfold Builtin.append_
    have a0:args.toArray[0]? = some (.slice base len cap):=by rw [hargs]; rfl
    have a1:args.toArray[1]? = some x:=by rw [hargs]; rfl
    have t0:ats.toArray[0]? = some t:=by rw [hats]; rfl
    have t1:ats.toArray[1]? = some u:=by rw [hats]; rfl
    have hmax:¬ (((len + m:Nat):Int) > IntKind.i64.max∧(False ∨ i.bytes = 0)):=by
      rintro ⟨h,_⟩
      simp only [IntKind.max,IntKind.signed,IntKind.bits] at h
      omega
    have hmax':((len + m:Nat):Int) > IntKind.i64.max→¬ i.bytes = 0:=fun h h0=>by rw [k6,h0] at r1; omega
    have hbig2:¬ Builtin.nextslicecap (len + m) cap * i.bytes > 2 ^ 48:=by omega
    have hq:(choose (Question.appendCap (len + m) cap e)).run P w = .ok newCap w.drew:=rfl
    have hroom2:∀ n (w:World),(askRoom n).run P w = .ok () w:=by
      intro n w; unfold askRoom; split <;> rfl
    rcases hdu with ⟨q,rfl⟩ | rfl
    · simp only [a0,a1,t0,t1,run_bind2,run_under h1,hte.size,run_under h2,Result.andThen_ok,run_pure2,hlen,Bool.false_eq_true,if_false,if_neg (Nat.not_le.2 hgrow),run_typeInfo k1,Bool.not_false,if_true]
      rw [if_neg hmax]
      simp only [run_bind2,run_typeInfo k1,Result.andThen_ok]
      rw [if_neg hbig2]
      simp only [run_bind2,hq,run_typeInfo k1,Result.andThen_ok,hroom2,hold,hnew,run_zero k1 k2,run_pure2]
      rfl
    · simp only [a0,a1,t0,t1,run_bind2,run_under h1,hte.size,run_under h2,Result.andThen_ok,run_pure2,hlen,Bool.false_eq_true,if_false,if_neg (Nat.not_le.2 hgrow),run_typeInfo k1,Bool.not_false,if_true]
      rw [if_neg hmax]
      simp only [run_bind2,run_typeInfo k1,Result.andThen_ok]
      rw [if_neg hbig2]
      simp only [run_bind2,hq,run_typeInfo k1,Result.andThen_ok,hroom2,hold,hnew,run_zero k1 k2,run_pure2]
      rfl
theorem run_room {P:Program} {w w':World} {t u e:TypeId} {te:TI} (h1:P.underlying t = some (.slice e)) (hte:TyFacts P e te)
    {du:TypeDesc} (h2:P.underlying u = some du) (hdu:(∃ q,du = .slice q) ∨ du = .string) {base:Option Addr} {len cap:Nat} {x:Value} {m:Nat} {news:List Value} {args:List Value} {ats:List TypeId}
    (hargs:args = .slice base len cap :: x :: args.drop 2) (hats:ats = t :: u :: ats.drop 2) (hlen:(Builtin.lenOf x).run P w = .ok m w)
    (hnew:(Builtin.firstCells te.size m x).run P w = .ok news.toArray w) (hfit:len + m ≤ cap)
    (hst:∀ a,base = some a→(storeCells (a.add (len * te.size)) news).run P w = .ok () w') (hst0:base = none→w' = w) (ty:TypeId) :
    (Builtin.append_ ats.toArray ty args.toArray).run P w = .ok (.slice base (len + m) cap) w':=by
  unfold Builtin.append_
  have a0:args.toArray[0]? = some (.slice base len cap):=by rw [hargs]; rfl
  have a1:args.toArray[1]? = some x:=by rw [hargs]; rfl
  have t0:ats.toArray[0]? = some t:=by rw [hats]; rfl
  have t1:ats.toArray[1]? = some u:=by rw [hats]; rfl
  rcases hdu with ⟨q,rfl⟩ | rfl
  · simp only [a0,a1,t0,t1,run_bind2,run_under h1,hte.size,run_under h2,Result.andThen_ok,run_pure2,hlen,Bool.false_eq_true,if_false,if_pos hfit,Bool.not_false,if_true,hnew]
    cases base with
    | none=>rw [hst0 rfl]; rfl
    | some a=>simp only [run_bind2,hst a rfl,Result.andThen_ok,run_pure2]
  · simp only [a0,a1,t0,t1,run_bind2,run_under h1,hte.size,run_under h2,Result.andThen_ok,run_pure2,hlen,Bool.false_eq_true,if_false,if_pos hfit,Bool.not_false,if_true,hnew]
    cases base with
    | none=>rw [hst0 rfl]; rfl
    | some a=>simp only [run_bind2,hst a rfl,Result.andThen_ok,run_pure2]
theorem Drew.step {w w':World} (h:Drew w w') (g:Gh) (H:Heap) (hw:WC g H w):WC g H w'∧Ctx w g H g H w':=⟨hw.drew h,Ctx.drew h g H⟩
theorem stripL_get (p:Oid→Bool):∀ (l:List AV),(stripL p l).length = l.length∧∀ i:Nat,(stripL p l)[i]? = (l[i]?).map (AE.strip p)
  | []=>⟨rfl,fun i=>by simp [stripL]⟩
  | a :: r=>by
    obtain ⟨h1,h2⟩:=stripL_get p r
    refine ⟨by simp [stripL,h1],fun i=>?_⟩
    cases i with
    | zero=>simp [stripL]
    | succ i=>simpa [stripL] using h2 i
theorem Body.strip {g:Gh} {w:World} {c:Nat} {f:Fl} {cs:List AV} (p:Oid→Bool) (h:Body g w c f cs):Body g w c f (stripL p cs) :=
  h.weak (stripL_get p cs).1 fun g1 i a a' v ha ha' hv=>by
    rw [(stripL_get p cs).2,ha] at ha'
    cases ha'
    exact V.strip p a v hv
structure Less (H H':Heap):Prop where
  ex:∀ b ob',find H' b = some ob'→∃ ob p,find H b = some ob∧ob' = ob.strip p
theorem strip_block (g:Gh) (b:Oid) (ob:Ob) (p:Oid→Bool):blockOf g b (ob.strip p) = blockOf g b ob∧ownOf g b (ob.strip p) = ownOf g b ob:=by
  cases ob with
  | cells wr cs=>cases wr <;> exact ⟨rfl,rfl⟩
  | buf s n=>exact ⟨rfl,rfl⟩
theorem WC.less {g:Gh} {H H':Heap} {w:World} (h:WC g H w) (hl:Less H H') :
    WC (g.heap H') H' w∧Keep (fun _=>False) g (g.heap H')∧Ctx w g H (g.heap H') H' w:=by
  have htip:∀ b s n,tipOf H' b = some (s,n)→tipOf H b = some (s,n):=by
    intro b s n ht
    unfold tipOf at ht ⊢
    split at ht
    · rename_i s' n' hf
      cases ht
      obtain ⟨ob,p,h1,h2⟩:=hl.ex b _ hf
      cases ob with
      | buf s2 n2=>cases h2; rw [h1]
      | cells wr cs=>cases h2
    · cases ht
  have hk:Keep (fun _=>False) g (g.heap H'):=by
    refine ⟨fun _ _ _ h=>h,fun _ _ _ h=>h,fun b _=>⟨fun s n hn=>?_⟩⟩
    exact ⟨s,n,by rw [h.tip]; exact htip b s n hn,Nat.le_refl _,fun _=>rfl⟩
  refine ⟨⟨fun _=>rfl,fun c o a ha=>?_,fun b ob' hb=>?_,fun b b' o1 o2 c h1 h2 h3 h4=>?_⟩,hk,⟨Nat.le_refl _,fun _ _ _=>⟨rfl,fun _=>rfl⟩,fun _ _ _ h=>h,fun c hl'=>?_,fun c hl'=>?_,rfl,rfl,rfl⟩⟩
  · exact hk.pinOk (h.pin c o a ha) rfl
  · obtain ⟨ob,p,h1,rfl⟩:=hl.ex b ob' hb
    have h0:=h.objs b ob h1
    cases ob with
    | cells wr cs=>
      obtain ⟨c,k1,k2,k4⟩:=h0
      exact ⟨c,k1,(hk.body (OffL.none _) rfl k2).strip p,k4⟩
    | buf s n=>exact h0
  · obtain ⟨q1,p1,k1,rfl⟩:=hl.ex b o1 h1
    obtain ⟨q2,p2,k2,rfl⟩:=hl.ex b' o2 h2
    rw [(strip_block _ _ _ _).1] at h3 h4
    exact h.inj b b' q1 q2 c k1 k2 (by cases q1 <;> exact h3) (by cases q2 <;> exact h4)
  · obtain ⟨b,ob,h1,h2⟩:=hl'
    obtain ⟨q,p,k1,rfl⟩:=hl.ex b ob h1
    rw [(strip_block _ _ _ _).2] at h2
    exact .inl ⟨b,q,k1,by
      cases q with
      | cells wr cs=>cases wr <;> exact h2
      | buf s n=>exact h2⟩
  · obtain ⟨b,ob,h1,h2⟩:=hl'
    obtain ⟨q,p,k1,rfl⟩:=hl.ex b ob h1
    rw [(strip_block _ _ _ _).1] at h2
    exact .inl ⟨b,q,k1,by cases q <;> exact h2⟩
theorem strip_never:(∀ a:AV,strip (fun _=>false) a = a)∧∀ as:List AV,stripL (fun _=>false) as = as:=by
  refine ⟨fun a=>?_,fun as=>?_⟩
  · exact strip_none a
  · exact stripL_none as
where
  strip_none:∀ a:AV,strip (fun _=>false) a = a
    | .ptr b off=>by simp [strip]
    | .mref b s o l c=>by simp [strip]
    | .mapr b=>by simp [strip]
    | .slice tok s es=>by cases tok <;> simp [strip]
    | .fn f a b=>by simp only [strip,stripL_none a,stripL_none b]
    | .iface t v=>by simp only [strip,strip_none v]
    | .agg cs=>by simp only [strip,stripL_none cs]
    | .tuple vs=>by simp only [strip,stripL_none vs]
    | .undef=>rfl
    | .bool _=>rfl
    | .int _ _=>rfl
    | .str _=>rfl
    | .nilp=>rfl
    | .pin _=>rfl
    | .mapf _ _=>rfl
    | .nils=>rfl
    | .nilm=>rfl
    | .nilf=>rfl
    | .nili=>rfl
  stripL_none:∀ as:List AV,stripL (fun _=>false) as = as
    | []=>rfl
    | a :: as=>by simp only [stripL,strip_none a,stripL_none as]
theorem obStrip_never (ob:Ob):ob.strip (fun _=>false) = ob:=by
  cases ob with
  | cells wr cs=>simp only [Ob.strip,strip_never.2]
  | buf s n=>rfl
theorem grown {g:Gh} {H:Heap} {w:World} {F:Oid→Prop} (hw:WC g H w) (b:Oid) (sz:Nat) (cs:List AV) (n newCap:Nat) (vs:Array Value) (e:TypeId) (hl:cs.length = n * sz) (hst:stillL cs = true)
    (hv:VL g cs (vs.toList.take cs.length)) (hsz:newCap * sz ≤ vs.size) (hcap:n ≤ newCap) (es:List AV) (hes:es.flatMap cellsOf = cs) (hel:es.length = n) (hee:∀ x ∈ es,(cellsOf x).length = sz)
    (hob:∀ ob,find H b = some ob→∃ s' n',ob = .buf s' n'∧n' < n) (hF:F b ∨ (∃ s' n',find H b = some (.buf s' n')∧n' < n)) (hcl:∀ x ob,x ≠ b→find H x = some ob→∀ y ∈ ob.refs ++ ob.toks,¬ F y) :
    ∃ g',g'.μ = g.μ∧Step g H w F (.slice (.buf b) sz es) (ins b (.buf sz n) H) (.slice (some ⟨w.heap.size,0,none⟩) n newCap) g' (w.drew.alloc (.cells vs e)):=by
  have hw1:=hw.drew (Drew.drew w)
  obtain ⟨p1,p2⟩:=hw1.newPin cs vs e hv hst
  have hk1:Keep F g (g.pinAt w.drew.heap.size cs):=Keep.pinAt hw1 cs F
  have hnl:¬ Used (g.pinAt w.drew.heap.size cs) H w.heap.size:=by
    rintro ⟨x,ob,h1,h2⟩
    have:w.heap.size < w.heap.size:=hw.used_lt ⟨x,ob,h1,by cases ob <;> exact h2⟩
    omega
  obtain ⟨q1,q2⟩:=p1.moved (F:=F) b sz n (some (w.heap.size,newCap)) (fun ob h=>by obtain ⟨s',n',h1,_⟩:=hob ob h; exact ⟨s',n',h1⟩)
    (by
      intro c cap hc
      cases hc
      refine ⟨hnl,vs,e,heap_alloc_new _ _,hsz,hcap,fun o ho=>?_⟩
      simp only [Gh.pinAt]
      rw [if_pos (show w.heap.size = w.drew.heap.size from rfl)]
      funext x
      refine propext ⟨fun hx=>?_,fun h=>h.elim⟩
      rw [List.getElem?_eq_none (by omega)] at hx
      cases hx)
    (by
      intro hk
      refine ⟨hk.gam,fun x hx c hc=>?_,fun x hx=>?_⟩
      · exact hc
      · by_cases hxb:x = b
        · subst hxb
          rcases hF with hF | ⟨s',n',h1,h2⟩
          · exact (hx hF).elim
          · refine ⟨fun s n2 hn2=>?_⟩
            simp only [Gh.moved,tipOf_ins,if_true] at hn2
            cases hn2
            exact ⟨s',n',by rw [p1.tip]; simp [tipOf,h1],by omega,fun e=>by omega⟩
        · exact hk.tok x hxb)
    hcl
  refine ⟨(g.pinAt w.drew.heap.size cs).moved b (some (w.heap.size,newCap)) (ins b (.buf sz n) H),rfl,⟨?_,q2,hk1.trans q1,?_⟩⟩
  · simp only [V]
    refine .inr ⟨w.heap.size,0,newCap,by rw [hel],by rw [hel]; exact hcap,hee,?_,?_⟩
    · rw [hes]
      intro i a ha
      refine ⟨?_,(still_nil hst i a ha).2.2⟩
      show (if w.drew.heap.size = w.drew.heap.size then fun a=>cs[0 + i]? = some a else g.Γ w.heap.size (0 + i)) a
      rw [if_pos rfl,Nat.zero_add]; exact ha
    · intro s n2 hn2
      simp only [Gh.moved,tipOf_ins,if_true] at hn2
      cases hn2
      rw [hel]
      exact ⟨Nat.le_refl _,fun _=>.inl ⟨rfl,by simp [Gh.moved]⟩⟩
  · refine Ctx.moved (((Ctx.drew (Drew.drew w) g H).trans p2)) b sz n _ ?_
    intro c cap hc
    cases hc
    exact .inr (Nat.le_refl _)
theorem loc_bound:∀ L:List Oid,∃ M,∀ n,Oid.loc n ∈ L→n < M
  | []=>⟨0,fun n h=>by cases h⟩
  | o :: L=>by
    obtain ⟨M,hM⟩:=loc_bound L
    cases o with
    | loc k=>
      refine ⟨M + k + 1,fun n h=>?_⟩
      rcases List.mem_cons.1 h with h | h
      · cases h; omega
      · have:=hM n h; omega
    | ext i=>exact ⟨M,fun n h=>by rcases List.mem_cons.1 h with h | h; cases h; exact hM n h⟩
    | cl o j=>exact ⟨M,fun n h=>by rcases List.mem_cons.1 h with h | h; cases h; exact hM n h⟩
theorem new_name (H:Heap):∃ b,find H b = none∧∀ x ob,find H x = some ob→b ∉ ob.refs ++ ob.toks:=by
  obtain ⟨M,hM⟩:=loc_bound (H.flatMap fun x=>x.1 :: (x.2.refs ++ x.2.toks))
  refine ⟨.loc M,?_,fun x ob h hb=>?_⟩
  · cases hf:find H (.loc M) with
    | none=>rfl
    | some ob=>
      have:=hM M (List.mem_flatMap.2 ⟨_,find_mem hf,List.mem_cons_self⟩)
      omega
  · have:=hM M (List.mem_flatMap.2 ⟨_,find_mem h,List.mem_cons_of_mem _ hb⟩)
    omega
theorem tok_none {g:Gh} {b:Oid} {s:Nat} {es:List AV} {v:Value} (h:V g (.slice (.buf b) s es) v):V g (.slice .none s es) v:=by
  simp only [V] at h ⊢
  rcases h with h | ⟨c,o,cap,h1,h2,h3,h4,h5⟩
  · exact .inl ⟨h.1.none,h.2⟩
  · exact .inr ⟨c,o,cap,h1,h2,h3,h4,trivial⟩
theorem grownN {g:Gh} {H:Heap} {w:World} (hw:WC g H w) (sz:Nat) (cs:List AV) (n newCap:Nat) (vs:Array Value) (e:TypeId) (hl:cs.length = n * sz) (hst:stillL cs = true)
    (hv:VL g cs (vs.toList.take cs.length)) (hsz:newCap * sz ≤ vs.size) (hcap:n ≤ newCap) (es:List AV) (hes:es.flatMap cellsOf = cs) (hel:es.length = n) (hee:∀ x ∈ es,(cellsOf x).length = sz) :
    ∃ g',Step g H w (fun _=>False) (.slice .none sz es) H (.slice (some ⟨w.heap.size,0,none⟩) n newCap) g' (w.drew.alloc (.cells vs e)):=by
  obtain ⟨b,hb1,hb2⟩:=new_name H
  obtain ⟨g1,hμ,st⟩:=grown (F:=fun x=>x = b) hw b sz cs n newCap vs e hl hst hv hsz hcap es hes hel hee (fun ob h=>by rw [hb1] at h; cases h) (.inl rfl) (fun x ob hx hf y hy e=>hb2 x ob hf (e ▸ hy))
  have hless:Less (ins b (.buf sz n) H) H:=⟨fun x ob hx=>⟨ob,fun _=>false,by rw [find_ins,if_neg (fun e=>by subst e; rw [hb1] at hx; cases hx)]; exact hx,(obStrip_never ob).symm⟩⟩
  obtain ⟨l1,l2,l3⟩:=st.wc.less hless
  refine ⟨g1.heap H,⟨?_,l1,?_,?_⟩⟩
  · have:=st.val
    exact tok_none (l2.V (Off.none _) this)
  · refine ⟨fun c o x h=>l2.gam _ _ _ (st.keep.gam _ _ _ h),fun x _ c hc=>?_,fun x _=>?_⟩
    · show g1.μ x = some c
      rw [hμ]; exact hc
    · by_cases hx:x = b
      · subst hx; exact .gone (by show tipOf H x = none; simp [tipOf,hb1])
      · exact (st.keep.tok x hx).trans (l2.tok x (fun h=>h))
  · exact st.ctx.trans l3
theorem flat_append (es ys:List AV):(es ++ ys).flatMap cellsOf = es.flatMap cellsOf ++ ys.flatMap cellsOf:=by simp
theorem stillL_append {a b:List AV} (h:stillL a = true) (k:stillL b = true):stillL (a ++ b) = true:=by
  refine stillL_of fun i x hx=>?_
  rw [List.getElem?_append] at hx
  split at hx
  · exact still_nil h i x hx
  · exact still_nil k _ x hx
theorem take_three (a b:List Value) (c:Array Value):(a.toArray ++ b.toArray ++ c).toList.take (a ++ b).length = a ++ b:=by
  have:(a.toArray ++ b.toArray ++ c).toList = (a ++ b) ++ c.toList:=by simp
  rw [this,List.take_left]
theorem good_append {P:Program} {tb:List TI} (hP:TbOk P tb) {g:Gh} {G H:Heap} {a:Act} {w:World} {o:Oper} (hw:WC g H w) {pl:Bool} {d:Nat} {t u:TypeId} {s x:AV} {r:OpR}
    (h:evAppend tb pl d G t u s x = some r) (hag:Agree r G H) (hfr:r.fresh = true→ClearH d H) {vs vx:Value} (hs:V g s vs) (hx:V g x vx) {args:List Value} {ats:List TypeId} {ty:TypeId}
    (hargs:args = vs :: vx :: args.drop 2) (hats:ats = t :: u :: ats.drop 2)
    (hex:∀ v w',(Builtin.append_ ats.toArray ty args.toArray).run P w = .ok v w'→(execOp a.eval o).run P w = .ok (.value v) w') :
    OpGood P g H a w (fun b=>r.fresh = true∧rooted d b = true) o r:=by
  unfold evAppend at h
  split at h
  · rename_i e du ys hd1 hd2 hsrc
    obtain ⟨_,_,_,d1,h1,h1'⟩:=descOf_some hP hd1
    cases ofDesc_slice h1'
    obtain ⟨_,_,_,d2,h2,h2'⟩:=descOf_some hP hd2
    split at h
    · cases h
    rename_i te hte
    have hT:=hP.facts hte
    split at h
    · cases h
    rename_i hcond
    simp only [Bool.or_eq_true,not_or,Bool.not_eq_true',bne_iff_ne,ne_eq,Decidable.not_not,Bool.not_eq_true,Bool.not_eq_false'] at hcond
    obtain ⟨⟨⟨c1,c2⟩,c3⟩,c4⟩:=hcond
    have hdu:(∃ q,d2 = .slice q) ∨ d2 = .string:=by
      rw [← h2'] at c1
      cases d2 <;> simp [ofDesc,srcTy] at c1 ⊢
    have hS:Src P g w vx te.size ys:=src_of hw hsrc (by simpa using c4) hx
    have hS':Src P g w.drew vx te.size ys:=src_of (hw.drew (Drew.drew w)) hsrc (by simpa using c4) hx
    have hze:te.zero.isEmpty = false:=by simpa using c2
    obtain ⟨us,k1,k2⟩:=hS.ex
    obtain ⟨us',k1',k2'⟩:=hS'.ex
    have hul:us.length = ys.length * te.size:=by rw [k1.length,flat_length hS.each]
    have hul':us'.length = ys.length * te.size:=by rw [k1'.length,flat_length hS.each]
    split at h
    · -- nil
      simp only [V] at hs; subst hs
      split at h
      · split at h
        · rename_i hroom
          cases h
          cases hys:ys with
          | nil=>
            subst hys
            have hrun:=run_room (P:=P) (w:=w) (w':=w) (base:=none) (len:=0) (cap:=0) (m:=0) (news:=us) h1 hT h2 hdu hargs hats hS.len k2 (Nat.le_refl _) (by intro a ha; cases ha) (fun _=>rfl) ty
            exact OpGood.pure hw (hex _ _ hrun) (by simp only [V]; exact .inl ⟨.inl rfl,trivial⟩)
          | cons y0 yr=>
            rw [← hys]
            have hpos:0 < ys.length:=by rw [hys]; simp
            obtain ⟨newCap,rest,r1,r2,r3⟩:=run_grow (P:=P) (g:=g) (w:=w) (base:=none) (len:=0) (cap:=0) (m:=ys.length) (old:=[]) (news:=us') h1 hT hze c3 h2 hdu hargs hats rfl hS.len k2' (by omega) (by simpa using hroom) ty
            simp only [Nat.zero_add] at r1 r2 r3
            obtain ⟨g',st⟩:=grownN hw te.size (ys.flatMap cellsOf) ys.length newCap (([]:List Value).toArray ++ us'.toArray ++ rest) e (flat_length hS.each) hS.still
              (by
                rw [flat_length hS.each]
                have:((([]:List Value).toArray ++ us'.toArray ++ rest).toList.take (ys.length * te.size)) = us':=by
                  rw [← hul']; simp
                rw [this]; exact k1')
              (by simp [r2,hul',← Nat.add_mul]; exact Nat.mul_le_mul_right _ (by omega)) r1 ys rfl rfl hS.each
            exact OpGood.value (hex _ _ r3) ⟨st.val,st.wc,st.keep.wider fun b hb=>hb.elim,st.ctx⟩
        · cases h
      split at h
      · rename_i hem
        cases h
        have hy:ys = []:=by simpa using hem
        subst hy
        have hrun:=run_room (P:=P) (w:=w) (w':=w) (base:=none) (len:=0) (cap:=0) (m:=0) (news:=us) h1 hT h2 hdu hargs hats hS.len k2 (Nat.le_refl _) (by intro a ha; cases ha) (fun _=>rfl) ty
        exact OpGood.pure hw (hex _ _ hrun) rfl
      · rename_i hem
        split at h
        · rename_i hroom
          cases h
          have hpos:0 < ys.length:=by
            cases hq:ys with
            | nil=>rw [hq] at hem; simp at hem
            | cons y r=>simp
          obtain ⟨hnr,hsp⟩:=hfr rfl
          obtain ⟨newCap,rest,r1,r2,r3⟩:=run_grow (P:=P) (g:=g) (w:=w) (base:=none) (len:=0) (cap:=0) (m:=ys.length) (old:=[]) (news:=us') h1 hT hze c3 h2 hdu hargs hats rfl hS.len k2' (by omega) (by simpa using hroom) ty
          simp only [Nat.zero_add] at r1 r2 r3
          obtain ⟨g',_,st⟩:=grown (F:=fun b=>rooted d b = true) hw (.loc d) te.size (ys.flatMap cellsOf) ys.length newCap (([]:List Value).toArray ++ us'.toArray ++ rest) e (flat_length hS.each) hS.still
            (by
              rw [flat_length hS.each]
              have:((([]:List Value).toArray ++ us'.toArray ++ rest).toList.take (ys.length * te.size)) = us':=by
                rw [← hul']; simp
              rw [this]; exact k1')
            (by simp [r2,hul',← Nat.add_mul]; exact Nat.mul_le_mul_right _ (by omega)) r1 ys rfl rfl hS.each
            (fun ob hob=>by rw [hnr _ (rooted_loc d)] at hob; cases hob) (.inl (rooted_loc d)) (fun x ob hxb hfx y hy=>by rw [hsp x ob hfx y hy]; simp)
          refine OpGood.value (hex _ _ r3) ⟨st.val,st.wc,st.keep.wider fun b hb=>⟨rfl,hb⟩,st.ctx⟩
        · cases h
    · -- full
      rename_i sz es
      split at h
      · cases h
      rename_i hsz
      have hsz':sz = te.size:=Decidable.byContradiction hsz
      subst hsz'
      have hparts:∃ base,vs = .slice base es.length es.length∧(∀ e ∈ es,(cellsOf e).length = te.size)∧stillL (es.flatMap cellsOf) = true∧∃ old,VL g (es.flatMap cellsOf) old ∧
          (Builtin.firstCells te.size es.length (.slice base es.length es.length)).run P w.drew = .ok old.toArray w.drew:=by
        simp only [V] at hs
        rcases hs with ⟨hb,rfl⟩ | ⟨c,off,cap,rfl,q1,q2,q3,q4⟩
        · rcases hb with rfl | ⟨a,cap,rfl,hb | rfl⟩
          · exact ⟨none,rfl,by simp,rfl,[],rfl,rfl⟩
          · cases hb
          · exact ⟨some a,rfl,by simp,rfl,[],rfl,run_cells_none _ _ _⟩
        · simp only [TokOk] at q4; subst q4
          obtain ⟨old,o1,o2⟩:=run_cells (P:=P) (hw.drew (Drew.drew w)) q3 (flat_length q2)
          exact ⟨_,rfl,q2,pinned_still hw q3,old,o1,o2⟩
      obtain ⟨base,rfl,q2,q3,old,o1,o2⟩:=hparts
      split at h
      · split at h
        · rename_i hroom
          cases h
          cases hys:ys with
          | nil=>
            subst hys
            have hu0:us = []:=by simpa using hul
            have hrun:=run_room (P:=P) (w:=w) (w':=w) (base:=base) (len:=es.length) (cap:=es.length) (m:=0) (news:=us) h1 hT h2 hdu hargs hats hS.len k2 (by simp) (by intro a _; rw [hu0]; rfl) (fun _=>rfl) ty
            refine OpGood.pure hw (hex _ _ hrun) ?_
            rw [List.append_nil]
            simp only [V] at hs ⊢
            rcases hs with hs | ⟨c,o,cap,t1,t2,t3,t4,t5⟩
            · exact .inl ⟨by simpa using hs.1.none,hs.2⟩
            · exact .inr ⟨c,o,cap,by simpa using t1,t2,t3,t4,trivial⟩
          | cons y0 yr=>
            rw [← hys]
            have hpos:0 < ys.length:=by rw [hys]; simp
            obtain ⟨newCap,rest,r1,r2,r3⟩:=run_grow (P:=P) (g:=g) (w:=w) (base:=base) (len:=es.length) (cap:=es.length) (m:=ys.length) (old:=old) (news:=us') h1 hT hze c3 h2 hdu hargs hats o2 hS.len k2' (by omega) hroom ty
            have hol:old.length = es.length * te.size:=by rw [o1.length,flat_length q2]
            obtain ⟨g',st⟩:=grownN hw te.size ((es ++ ys).flatMap cellsOf) (es.length + ys.length) newCap (old.toArray ++ us'.toArray ++ rest) e
              (by rw [flat_append,List.length_append,flat_length q2,flat_length hS.each,Nat.add_mul]) (by rw [flat_append]; exact stillL_append q3 hS.still)
              (by
                rw [flat_append]
                have hlen:(es.flatMap cellsOf ++ ys.flatMap cellsOf).length = (old ++ us').length:=by rw [List.length_append,List.length_append,o1.length,k1'.length]
                have:((old.toArray ++ us'.toArray ++ rest).toList.take (es.flatMap cellsOf ++ ys.flatMap cellsOf).length) = old ++ us':=by
                  rw [hlen]; exact take_three old us' rest
                rw [this]; exact o1.append k1')
              (by simp [r2,hul',hol,← Nat.add_mul]; exact Nat.mul_le_mul_right _ (by omega)) r1 (es ++ ys) rfl (by simp) (fun x hx=>by rcases List.mem_append.1 hx with hx | hx; exact q2 x hx; exact hS.each x hx)
            exact OpGood.value (hex _ _ r3) ⟨st.val,st.wc,st.keep.wider fun b hb=>hb.elim,st.ctx⟩
        · cases h
      split at h
      · rename_i hem
        cases h
        have hy:ys = []:=by simpa using hem
        subst hy
        have hu0:us = []:=by simpa using hul
        have hrun:=run_room (P:=P) (w:=w) (w':=w) (base:=base) (len:=es.length) (cap:=es.length) (m:=0) (news:=us) h1 hT h2 hdu hargs hats hS.len k2 (by simp) (by intro a _; rw [hu0]; rfl) (fun _=>rfl) ty
        exact OpGood.pure hw (hex _ _ hrun) (by simpa using hs)
      · rename_i hem
        split at h
        · rename_i hroom
          cases h
          have hpos:0 < ys.length:=by
            cases hq:ys with
            | nil=>rw [hq] at hem; simp at hem
            | cons y r=>simp
          obtain ⟨hnr,hsp⟩:=hfr rfl
          obtain ⟨newCap,rest,r1,r2,r3⟩:=run_grow (P:=P) (g:=g) (w:=w) (base:=base) (len:=es.length) (cap:=es.length) (m:=ys.length) (old:=old) (news:=us') h1 hT hze c3 h2 hdu hargs hats o2 hS.len k2' (by omega) hroom ty
          have hol:old.length = es.length * te.size:=by rw [o1.length,flat_length q2]
          obtain ⟨g',_,st⟩:=grown (F:=fun b=>rooted d b = true) hw (.loc d) te.size ((es ++ ys).flatMap cellsOf) (es.length + ys.length) newCap (old.toArray ++ us'.toArray ++ rest) e
            (by rw [flat_append,List.length_append,flat_length q2,flat_length hS.each,Nat.add_mul]) (by rw [flat_append]; exact stillL_append q3 hS.still)
            (by
              rw [flat_append]
              have hlen:(es.flatMap cellsOf ++ ys.flatMap cellsOf).length = (old ++ us').length:=by rw [List.length_append,List.length_append,o1.length,k1'.length]
              have:((old.toArray ++ us'.toArray ++ rest).toList.take (es.flatMap cellsOf ++ ys.flatMap cellsOf).length) = old ++ us':=by
                rw [hlen]; exact take_three old us' rest
              rw [this]; exact o1.append k1')
            (by simp [r2,hul',hol,← Nat.add_mul]; exact Nat.mul_le_mul_right _ (by omega)) r1 (es ++ ys) rfl (by simp) (fun x hx=>by rcases List.mem_append.1 hx with hx | hx; exact q2 x hx; exact hS.each x hx)
            (fun ob hob=>by rw [hnr _ (rooted_loc d)] at hob; cases hob) (.inl (rooted_loc d)) (fun x ob hxb hfx y hy=>by rw [hsp x ob hfx y hy]; simp)
          refine OpGood.value (hex _ _ r3) ⟨st.val,st.wc,st.keep.wider fun b hb=>⟨rfl,hb⟩,st.ctx⟩
        · cases h
    · -- a known spare
      rename_i b sz es
      split at h
      · cases h
      rename_i hsz
      have hsz':sz = te.size:=Decidable.byContradiction hsz
      subst hsz'
      split at h
      · rename_i sz' n hfbG
        split at h
        · rename_i hcond
          obtain ⟨e1,e2,hroom⟩:=hcond
          subst e1 e2
          cases h
          have hfb:find H b = some (.buf te.size es.length):=by rw [← hag b ⟨b,by simp,rfl⟩]; exact hfbG
          have htip:g.tip b = some (te.size,es.length):=by rw [hw.tip]; simp [tipOf,hfb]
          have hparts:∃ base cap,vs = .slice base es.length cap∧es.length ≤ cap∧(∀ e ∈ es,(cellsOf e).length = te.size)∧stillL (es.flatMap cellsOf) = true ∧
              (∃ old,VL g (es.flatMap cellsOf) old∧(Builtin.firstCells te.size es.length (.slice base es.length cap)).run P w.drew = .ok old.toArray w.drew) ∧
              (cap = es.length ∨ ∃ c,base = some ⟨c,0,none⟩∧g.bufc b = some (c,cap)∧Pinned g c 0 (es.flatMap cellsOf)):=by
            simp only [V] at hs
            rcases hs with ⟨hb,rfl⟩ | ⟨c,off,cap,rfl,q1,q2,q3,q4⟩
            · rcases hb with rfl | ⟨a,cap,rfl,hb | rfl⟩
              · exact ⟨none,0,rfl,Nat.le_refl _,by simp,rfl,⟨[],rfl,rfl⟩,.inl rfl⟩
              · cases hb
              · exact ⟨some a,0,rfl,Nat.le_refl _,by simp,rfl,⟨[],rfl,run_cells_none _ _ _⟩,.inl rfl⟩
            · obtain ⟨old,o1,o2⟩:=run_cells (P:=P) (hw.drew (Drew.drew w)) q3 (flat_length q2)
              rcases (q4 _ _ htip).2 rfl with ⟨rfl,q6⟩ | q6
              · exact ⟨_,cap,rfl,q1,q2,pinned_still hw q3,⟨old,o1,o2⟩,.inr ⟨c,rfl,q6,q3⟩⟩
              · exact ⟨_,cap,rfl,q1,q2,pinned_still hw q3,⟨old,o1,o2⟩,.inl q6⟩
          obtain ⟨base,cap,rfl,q1,q2,q3,⟨old,o1,o2⟩,q4⟩:=hparts
          have hol:old.length = es.length * te.size:=by rw [o1.length,flat_length q2]
          by_cases hfit:es.length + ys.length ≤ cap
          · rcases q4 with rfl | ⟨c,rfl,hbc,q5⟩
            · have hy:ys = []:=by
                cases hq:ys with
                | nil=>rfl
                | cons y r=>rw [hq] at hfit; simp only [List.length_cons] at hfit; omega
              subst hy
              have hu0:us = []:=by simpa using hul
              have hrun:=run_room (P:=P) (w:=w) (w':=w) (base:=base) (len:=es.length) (cap:=es.length) (m:=0) (news:=us) h1 hT h2 hdu hargs hats hS.len k2 (by simp) (by intro a _; rw [hu0]; rfl) (fun _=>rfl) ty
              simp only [Nat.add_zero] at hrun
              have hcg:∀ x,find (ins b (.buf te.size (es.length + 0)) H) x = find H x:=find_ins_same hfb
              exact OpGood.value (hex _ _ hrun) ⟨by simpa using hs,hw.congr hcg,Keep.refl _ _,(Ctx.refl w g H).congr hcg⟩
            · obtain ⟨vs,e',v1,v2,v3,v4⟩:=hw.objs b _ hfb c cap hbc
              have hrow:=run_storeCells_at (P:=P) c (es.length * te.size) e' us 0 vs w v1 (by
                have:=Nat.mul_le_mul_right te.size hfit
                rw [Nat.add_mul] at this
                omega) (all_cellOk k1 (by
                  have:=hS.still
                  simp only [stillL,Bool.and_eq_true] at this
                  exact this.2))
              obtain ⟨n1,n2,n3⟩:=hw.fits hfb hbc v1 v2 hfit v4 (ys.flatMap cellsOf) us (flat_length hS.each) k1 hS.still
              have hrun:=run_room (P:=P) (w:=w) (base:=some ⟨c,0,none⟩) (len:=es.length) (cap:=cap) (m:=ys.length) (news:=us) h1 hT h2 hdu hargs hats hS.len k2 hfit
                (by intro a ha; cases ha; rw [add_eq,Nat.zero_add]; exact hrow) (by intro h0; cases h0) ty
              simp only [Nat.add_zero] at hrun
              refine OpGood.value (hex _ _ hrun) ⟨?_,n1,n3.wider (fun _ h=>h.elim),n2⟩
              simp only [V]
              refine .inr ⟨c,0,cap,by simp,by simpa using hfit,fun x hx=>by rcases List.mem_append.1 hx with hx | hx; exact q2 x hx; exact hS.each x hx,?_,fun s n hn=>?_⟩
              · rw [flat_append]
                intro i a ha
                rw [Nat.zero_add]
                simp only [Gh.heap,Gh.more]
                rw [List.getElem?_append] at ha
                split at ha
                · rename_i hi
                  rw [flat_length q2] at hi
                  rw [if_neg (by omega)]
                  have:=q5 i a ha
                  rwa [Nat.zero_add] at this
                · rename_i hi
                  rw [flat_length q2] at hi ha
                  have hlt:=(List.getElem?_eq_some_iff.1 ha).1
                  rw [if_pos ⟨trivial,by omega,by omega⟩]
                  exact ⟨ha,(still_nil hS.still _ a ha).2.2⟩
              · simp only [Gh.heap,tipOf_ins,if_true] at hn
                cases hn
                exact ⟨by simp,fun _=>.inl ⟨rfl,hbc⟩⟩
          · obtain ⟨newCap,rest,r1,r2,r3⟩:=run_grow (P:=P) (g:=g) (w:=w) (base:=base) (len:=es.length) (cap:=cap) (m:=ys.length) (old:=old) (news:=us') h1 hT hze c3 h2 hdu hargs hats o2 hS.len k2' (by omega) hroom ty
            have hpos:0 < ys.length:=by omega
            obtain ⟨g',_,st⟩:=grown (F:=fun _=>False) hw b te.size ((es ++ ys).flatMap cellsOf) (es.length + ys.length) newCap (old.toArray ++ us'.toArray ++ rest) e
              (by rw [flat_append,List.length_append,flat_length q2,flat_length hS.each,Nat.add_mul]) (by rw [flat_append]; exact stillL_append q3 hS.still)
              (by
                rw [flat_append]
                have hlen:(es.flatMap cellsOf ++ ys.flatMap cellsOf).length = (old ++ us').length:=by rw [List.length_append,List.length_append,o1.length,k1'.length]
                have:((old.toArray ++ us'.toArray ++ rest).toList.take (es.flatMap cellsOf ++ ys.flatMap cellsOf).length) = old ++ us':=by
                  rw [hlen]; exact take_three old us' rest
                rw [this]; exact o1.append k1')
              (by simp [r2,hul',hol,← Nat.add_mul]; exact Nat.mul_le_mul_right _ (by omega)) r1 (es ++ ys) rfl (by simp) (fun x hx=>by rcases List.mem_append.1 hx with hx | hx; exact q2 x hx; exact hS.each x hx)
              (fun ob hob=>by rw [hfb] at hob; cases hob; exact ⟨_,_,rfl,by omega⟩) (.inr ⟨_,_,hfb,by omega⟩) (fun x ob hxb hfx y hy h=>h)
            refine OpGood.value (hex _ _ r3) ⟨st.val,st.wc,st.keep.wider fun b hb=>hb.elim,st.ctx⟩
        · cases h
      · cases h
    · cases h
  · cases h
end Go.Proofs.YtjojaiomgdjhfaaGreatDoor.AE
