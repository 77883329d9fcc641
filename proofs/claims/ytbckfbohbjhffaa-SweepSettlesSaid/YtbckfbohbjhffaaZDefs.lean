/- The abstract evaluator: values, heap, operations, code, functions. Definitions alone; no condition. -/
import Derived.Orders
import Derived.Below
set_option linter.unusedVariables false
namespace Go.Proofs.Ytbckfbohbjhffaa.AE
open Go

/-- Names of abstract objects: a local one by the slot that made it; one that came in; the spare of a slice that lies in a cell. -/
inductive Oid where
  | loc (d : Nat)
  | ext (i : Nat)
  | cl (o : Oid) (j : Nat)
  deriving DecidableEq

def Oid.root : Oid → Oid
  | .cl o _ => o.root
  | o => o

/-- What is known of a slice's spare: nothing; there is none; it is the named one's. -/
inductive Tok where
  | none
  | full
  | buf (b : Oid)
  deriving DecidableEq

inductive AV where
  | undef
  | bool (b : Bool)
  | int (k : IntKind) (n : Int)
  | str (s : List UInt8)
  | nilp
  | ptr (b : Oid) (off : Nat)
  | pin (cs : List AV)
  | nils
  | slice (tok : Tok) (s : Nat) (es : List AV)
  | mref (b : Oid) (s off len cap : Nat)
  | nilm
  | mapr (b : Oid)
  | nilf
  | fn (f : Fn) (first captured : List AV)
  | nili
  | iface (t : TypeId) (v : AV)
  | agg (cs : List AV)
  | tuple (vs : List AV)

inductive Ob where
  | cells (wr : Bool) (cs : List AV)
  | buf (s n : Nat)
  | map (es : List (AV × AV))

abbrev Slots := List (Nat × AV)
abbrev Heap := List (Oid × Ob)

/-! ### association lists -/
def find {K α : Type} [DecidableEq K] : List (K × α) → K → Option α
  | [], _ => none
  | (k', v) :: r, k => if k' = k then some v else find r k
def ins {K α : Type} [DecidableEq K] (k : K) (v : α) : List (K × α) → List (K × α)
  | [] => [(k, v)]
  | (k', v') :: r => if k' = k then (k, v) :: r else (k', v') :: ins k v r
/-- Slots are kept in order, for the reader's sake alone. -/
def put (k : Nat) (v : AV) : Slots → Slots
  | [] => [(k, v)]
  | (k', v') :: r => if k < k' then (k, v) :: (k', v') :: r else if k' = k then (k, v) :: r else (k', v') :: put k v r
def getA (A : Slots) (t : Nat) : AV := (find A t).getD .undef

/-! ### what a value refers to -/
mutual
def refs : AV → List Oid
  | .ptr b _ => [b]
  | .mref b _ _ _ _ => [b]
  | .mapr b => [b]
  | .fn _ a b => refsL a ++ refsL b
  | .iface _ v => refs v
  | .agg cs => refsL cs
  | .tuple vs => refsL vs
  | _ => []
def refsL : List AV → List Oid
  | [] => []
  | v :: r => refs v ++ refsL r
end
mutual
def toks : AV → List Oid
  | .slice (.buf b) _ _ => [b]
  | .fn _ a b => toksL a ++ toksL b
  | .iface _ v => toks v
  | .agg cs => toksL cs
  | .tuple vs => toksL vs
  | _ => []
def toksL : List AV → List Oid
  | [] => []
  | v :: r => toks v ++ toksL r
end
-- The value without what is known of spares.
mutual
def clean : AV → AV
  | .slice (.buf _) s es => .slice .none s es
  | .fn f a b => .fn f (cleanL a) (cleanL b)
  | .iface t v => .iface t (clean v)
  | .agg cs => .agg (cleanL cs)
  | .tuple vs => .tuple (cleanL vs)
  | v => v
def cleanL : List AV → List AV
  | [] => []
  | v :: r => clean v :: cleanL r
end
-- The value where nothing is known any more of the object 'd' and of the spares in it.
mutual
def strip (p : Oid → Bool) : AV → AV
  | .ptr b off => if p b then .undef else .ptr b off
  | .mref b s o l c => if p b then .undef else .mref b s o l c
  | .mapr b => if p b then .undef else .mapr b
  | .slice (.buf b) s es => if p b then .slice .none s es else .slice (.buf b) s es
  | .fn f a b => .fn f (stripL p a) (stripL p b)
  | .iface t v => .iface t (strip p v)
  | .agg cs => .agg (stripL p cs)
  | .tuple vs => .tuple (stripL p vs)
  | v => v
def stripL (p : Oid → Bool) : List AV → List AV
  | [] => []
  | v :: r => strip p v :: stripL p r
end
-- Objects under other names.
mutual
def ren (σ : Oid → Option Oid) : AV → Option AV
  | .ptr b off => match σ b with | some b' => some (.ptr b' off) | none => none
  | .mref b s o l c => match σ b with | some b' => some (.mref b' s o l c) | none => none
  | .mapr b => match σ b with | some b' => some (.mapr b') | none => none
  | .slice (.buf b) s es => match σ b with | some b' => some (.slice (.buf b') s es) | none => some (.slice .none s es)
  | .fn f a b => match renL σ a, renL σ b with | some a', some b' => some (.fn f a' b') | _, _ => none
  | .iface t v => match ren σ v with | some v' => some (.iface t v') | none => none
  | .agg cs => match renL σ cs with | some cs' => some (.agg cs') | none => none
  | .tuple vs => match renL σ vs with | some vs' => some (.tuple vs') | none => none
  | v => some v
def renL (σ : Oid → Option Oid) : List AV → Option (List AV)
  | [] => some []
  | v :: r => match ren σ v, renL σ r with | some v', some r' => some (v' :: r') | _, _ => none
end

def Ob.refs : Ob → List Oid
  | .cells _ cs => refsL cs
  | .buf _ _ => []
  | .map es => es.flatMap fun e => AE.refs e.1 ++ AE.refs e.2
def Ob.strip (p : Oid → Bool) : Ob → Ob
  | .cells w cs => .cells w (stripL p cs)
  | .buf s n => .buf s n
  | .map es => .map (es.map fun e => (AE.strip p e.1, AE.strip p e.2))
def Ob.toks : Ob → List Oid
  | .cells _ cs => toksL cs
  | .buf _ _ => []
  | .map es => es.flatMap fun e => AE.toks e.1 ++ AE.toks e.2

/-! ### types -/
inductive TD where
  | bool
  | int (k : IntKind)
  | string
  | ptr (e : TypeId)
  | slice (e : TypeId)
  | array (n : Nat) (e : TypeId)
  | struct (fs : List (Nat × TypeId))
  | map (k e : TypeId)
  | iface (n : Nat)
  | fn
  | other
  deriving DecidableEq
structure TI where
  size : Nat
  agg : Bool
  bytes : Nat
  zero : List AV
  desc : TD
  eqOk : Bool

def ofCell : Value → AV
  | .bool b => .bool b
  | .int k n => .int k n
  | .string s => .str s.data.toList
  | .pointer none => .nilp
  | .slice none 0 0 => .nils
  | .map none => .nilm
  | .nilFunc => .nilf
  | .func (.func f) ⟨[]⟩ ⟨[]⟩ => .fn (.func f) [] []
  | .nilIface => .nili
  | _ => .undef
def ofVal : Value → AV
  | .agg cs => .agg (cs.toList.map ofCell)
  | v => ofCell v
def ofDesc : TypeDesc → TD
  | .bool => .bool
  | .int k => .int k
  | .string => .string
  | .pointer e => .ptr e
  | .slice e => .slice e
  | .array n e => .array n e
  | .struct fs => .struct (fs.toList.map fun f => (f.offset, f.type))
  | .map k e => .map k e
  | .interface ms => .iface ms.size
  | .func _ _ _ => .fn
  | _ => .other
def aggD : TypeDesc → Bool
  | .struct _ | .array _ _ => true
  | _ => false
def zeroCellsOf : Option Value → List AV
  | some z => z.cells.toList.map ofCell
  | none => []
/-- Are two of these compared field by field, all fields, and with no question ahead? -/
def eqOkD (P : Program) (t : TypeId) : TypeDesc → Bool
  | .struct fs => fs.toList.all (fun f => !(f.name == "_")) && !P.stoodInHeld t && !P.eqGuardType P.depth t
  | _ => false
def mkTI (P : Program) (t : TypeId) : Option TI :=
  match P.info? t, P.underlying t with
  | some i, some d => some { size := i.size, agg := aggD d, bytes := i.bytes, zero := zeroCellsOf i.zero, desc := ofDesc d, eqOk := eqOkD P t d }
  | _, _ => none

/-! ### hints -/
structure Cfg where
  /-- calls of this function only read what comes in -/
  ro : FuncId → Bool
  /-- an assignment of nil to this slot of the function begins a slice that grows there -/
  acc : FuncId → Nat → Bool
  /-- likewise a cell of the object that this slot makes: the cell, the elements' size -/
  accCells : FuncId → Nat → List (Nat × Nat)
  /-- behind this region: the slots that are wanted yet, and the objects that are wanted no more -/
  kill : FuncId → Nat → Option (List Nat × List Nat)
  /-- the call that fills this slot hands over what the callee has grown -/
  adopt : FuncId → Nat → Bool
  /-- of what this append makes the spare is not wanted -/
  plainAp : FuncId → Nat → Bool

/-- What an operation comes to: its value; what it writes; what it looked at; whether it makes the object of its own slot's name. -/
structure OpR where
  v : AV
  ws : List (Oid × Ob) := []
  rd : List Oid := []
  fresh : Bool := false

def cellsOf : AV → List AV
  | .agg cs => cs
  | v => [v]
def noUndef : AV → Bool
  | .undef => false
  | _ => true
/-- What one cell may hold. -/
def cellOk : AV → Bool
  | .undef => false
  | .agg _ => false
  | .tuple _ => false
  | _ => true
/-- Values that may be laid where nobody writes any more. -/
def stillL (vs : List AV) : Bool := (refsL vs).isEmpty && (toksL vs).isEmpty && vs.all cellOk
def setRange (cs : List AV) (off : Nat) : List AV → List AV
  | [] => cs
  | v :: vs => setRange (cs.set off v) (off + 1) vs
def fillL (place : Nat → Option (Nat × Nat)) (cells : List AV) : List (Nat × AV) → Option (List AV)
  | [] => some cells
  | (i, v) :: rest =>
    match place i with
    | none => none
    | some (off, size) =>
      if (cellsOf v).length ≠ size ∨ off + (cellsOf v).length > cells.length ∨ noUndef v = false then none
      else fillL place (setRange cells off (cellsOf v)) rest
def takeCells (ti : TI) (cs : List AV) (off : Nat) : Option AV :=
  if ti.agg then (if off + ti.size ≤ cs.length then some (.agg ((cs.drop off).take ti.size)) else none)
  else cs[off]?
def chunk (agg : Bool) (s : Nat) : Nat → List AV → List AV
  | 0, _ => []
  | n + 1, cs => (if agg then .agg (cs.take s) else cs.headD .undef) :: chunk agg s n (cs.drop s)


variable (tb : List TI)

def descOf (t : TypeId) : Option TD := match tb[t]? with | some ti => some ti.desc | none => none
def tsize (t : TypeId) : Option Nat := match tb[t]? with | some ti => some ti.size | none => none
def fieldsOf (t : TypeId) : Option (List (Nat × TypeId)) :=
  match descOf tb t with
  | some (.struct fs) => some fs
  | _ => none

/-- Fields that are one cell each. -/
def evEqF (eq : TypeId → AV → AV → Option Bool) (xs ys : List AV) : List (Nat × TypeId) → Option Bool
  | [] => some true
  | (o, t) :: r =>
    match tb[t]? with
    | none => none
    | some ti =>
      if ti.agg then none else
      match xs[o]?, ys[o]? with
      | some a, some b => match eq t a b, evEqF eq xs ys r with
        | some e, some e' => some (e && e')
        | _, _ => none
      | _, _ => none
def eqOkT (t : TypeId) : Bool := match tb[t]? with | some ti => ti.eqOk | none => false
def evEq : Nat → TypeId → AV → AV → Option Bool
  | 0, _, _, _ => none
  | d + 1, t, x, y =>
    match descOf tb t, x, y with
    | some .bool, .bool a, .bool b => some (a == b)
    | some (.int _), .int k a, .int k' b => if k = k' then some (a == b) else none
    | some .string, .str a, .str b => some (a == b)
    | some (.ptr _), .nilp, .nilp => some true
    | some (.ptr _), .nilp, .ptr _ _ => some false
    | some (.ptr _), .nilp, .pin _ => some false
    | some (.ptr _), .ptr _ _, .nilp => some false
    | some (.ptr _), .pin _, .nilp => some false
    | some (.slice _), .nils, .nils => some true
    | some (.slice _), .slice _ _ (_ :: _), .nils => some false
    | some (.slice _), .nils, .slice _ _ (_ :: _) => some false
    | some (.slice _), .mref _ _ _ _ _, .nils => some false
    | some (.map _ _), .nilm, .nilm => some true
    | some (.map _ _), .mapr _, .nilm => some false
    | some (.map _ _), .nilm, .mapr _ => some false
    | some .fn, .nilf, .nilf => some true
    | some .fn, .fn _ _ _, .nilf => some false
    | some .fn, .nilf, .fn _ _ _ => some false
    | some (.struct fs), .agg xs, .agg ys => if eqOkT tb t then evEqF tb (evEq d) xs ys fs else none
    | _, _, _ => none

def intBits (op : BinOp) (k : IntKind) (x y : Int) : Option AV :=
  match op with
  | .and => some (.int k (k.wrap ((BitVec.ofInt k.bits x) &&& (BitVec.ofInt k.bits y)).toNat))
  | .or => some (.int k (k.wrap ((BitVec.ofInt k.bits x) ||| (BitVec.ofInt k.bits y)).toNat))
  | .xor => some (.int k (k.wrap ((BitVec.ofInt k.bits x) ^^^ (BitVec.ofInt k.bits y)).toNat))
  | .andNot => some (.int k (k.wrap ((BitVec.ofInt k.bits x) &&& ~~~(BitVec.ofInt k.bits y)).toNat))
  | _ => none
def intOp (op : BinOp) (k : IntKind) (a b : Int) : Option AV :=
  match op with
  | .add => some (.int k (k.wrap (a + b)))
  | .sub => some (.int k (k.wrap (a - b)))
  | .mul => some (.int k (k.wrap (a * b)))
  | .quo => if b = 0 then none else some (.int k (k.wrap (a.tdiv b)))
  | .rem => if b = 0 then none else some (.int k (a.tmod b))
  | .and => intBits .and k a b
  | .or => intBits .or k a b
  | .xor => intBits .xor k a b
  | .andNot => intBits .andNot k a b
  | .eql => some (.bool (a == b))
  | .neq => some (.bool (a != b))
  | .lss => some (.bool (decide (a < b)))
  | .leq => some (.bool (decide (a ≤ b)))
  | .gtr => some (.bool (decide (a > b)))
  | .geq => some (.bool (decide (a ≥ b)))
  | .shl => if b < 0 then none else some (.int k (k.wrap (a * 2 ^ (min b.toNat k.bits))))
  | .shr => if b < 0 then none else some (.int k (a.fdiv (2 ^ (min b.toNat k.bits))))
def strOp (op : BinOp) (x y : List UInt8) : Option AV :=
  match op with
  | .add => if x.length + y.length ≤ 9223372036854775807 then some (.str (x ++ y)) else none
  | .eql => some (.bool (x == y))
  | .neq => some (.bool (!(x == y)))
  | .lss => some (.bool (Op.bytesLess x y))
  | .leq => some (.bool (Op.bytesLess x y || x == y))
  | .gtr => some (.bool !(Op.bytesLess x y || x == y))
  | .geq => some (.bool !(Op.bytesLess x y))
  | _ => none
def evBin (op : BinOp) (t : TypeId) (x y : AV) : Option AV :=
  match x, y with
  | .int k a, .int k' b =>
    if op = .shl ∨ op = .shr then intOp op k a b
    else if k = k' then intOp op k a b else none
  | .str a, .str b => strOp op a b
  | x, y =>
    match op with
    | .eql => (evEq tb 100 t x y).map .bool
    | .neq => (evEq tb 100 t x y).map fun b => .bool (!b)
    | _ => none
def evUn (op : UnOp) (x : AV) : Option AV :=
  match op, x with
  | .neg, .int k n => some (.int k (k.wrap (0 - n)))
  | .xor, .int k n => intBits .xor k (if k.signed then -1 else k.max) n
  | .not, .bool b => some (.bool !b)
  | _, _ => none

def ofBytes (s : List UInt8) : List AV := s.map fun b => .int .u8 b.toNat

def evConv (src dst : TypeId) (x : AV) : Option AV :=
  match descOf tb src, descOf tb dst, x with
  | some _, some (.int k), .int _ n => some (.int k (k.wrap n))
  | some _, some .string, .str s => some (.str s)
  | some _, some .string, .int _ n => some (.str (Utf8.encode n).data.toList)
  | _, _, _ => none

/-- A bound of a slice, if it is given: from 0 to 'top'. -/
def bnd (x : AV) (top : Nat) : Option Nat :=
  match x with
  | .int _ i => if 0 ≤ i ∧ i ≤ top then some i.toNat else none
  | _ => none
def bndO (x : Option AV) (dflt top : Nat) : Option Nat :=
  match x with
  | some v => bnd v top
  | none => some dflt
def evSlice (t : TypeId) (x : AV) (lo hi mx : Option AV) : Option AV :=
  match descOf tb t, x with
  | some .string, .str s =>
    match mx with
    | some _ => none
    | none =>
    match bndO hi s.length s.length with
    | some h => match bndO lo 0 h with
      | some l => some (.str ((s.take h).drop l))
      | none => none
    | none => none
  | some (.slice e), .slice tok sz es =>
    if tsize tb e ≠ some sz then none else
    match mx with
    | none =>
      match bndO hi es.length es.length with
      | some h => match bndO lo 0 h with
        | some l => some (.slice (if h = es.length ∧ (l = 0 ∨ tok = .full) then tok else .none) sz ((es.take h).drop l))
        | none => none
      | none => none
    | some m' =>
      match bnd m' es.length with
      | none => none
      | some m =>
      match hi with
      | none => none
      | some h' =>
      match bnd h' m with
      | none => none
      | some h => match bndO lo 0 h with
        | some l => some (.slice (if h = m then .full else .none) sz ((es.take h).drop l))
        | none => none
  | some (.slice e), .nils =>
    match tsize tb e, mx, hi with
    | some _, none, hi => match bndO hi 0 0, bndO lo 0 0 with
      | some _, some _ => some .nils
      | _, _ => none
    | some _, some m, some h => match bnd m 0, bnd h 0, bndO lo 0 0 with
      | some _, some _, some _ => some .nils
      | _, _, _ => none
    | _, _, _ => none
  | _, _ => none

def evIndexAddr (t : TypeId) (x i : AV) : Option AV :=
  match descOf tb t, x, i with
  | some (.slice e), .slice _ sz es, .int _ n =>
    if tsize tb e ≠ some sz then none else
    if 0 ≤ n then (es[n.toNat]?).map fun v => .pin (cellsOf v) else none
  | some (.slice e), .mref b sz off len _, .int _ n =>
    if tsize tb e ≠ some sz then none else
    if 0 ≤ n ∧ n < len then some (.ptr b (off + n.toNat * sz)) else none
  | some (.array len e), .ptr b off, .int _ n =>
    match tsize tb e with
    | some sz => if 0 ≤ n ∧ n < len then some (.ptr b (off + n.toNat * sz)) else none
    | none => none
  | some (.array len e), .pin cs, .int _ n =>
    match tsize tb e with
    | some sz => if 0 ≤ n ∧ n < len then some (.pin (cs.drop (n.toNat * sz))) else none
    | none => none
  | _, _, _ => none
def evIndex (t : TypeId) (x i : AV) : Option AV :=
  match descOf tb t, x, i with
  | some (.array len e), .agg cs, .int _ n =>
    match tb[e]? with
    | some ti => if 0 ≤ n ∧ n < len then takeCells ti cs (n.toNat * ti.size) else none
    | none => none
  | some .string, .str s, .int _ n => if 0 ≤ n then (s[n.toNat]?).map fun b => .int .u8 b.toNat else none
  | _, _, _ => none
def evFieldAddr (s : TypeId) (x : AV) (f : Nat) : Option AV :=
  match fieldsOf tb s with
  | none => none
  | some fs => match fs[f]? with
    | none => none
    | some (off, ft) => match tsize tb ft with
      | none => none
      | some sz =>
        if sz = 0 then none else
        match x with
        | .ptr b o => some (.ptr b (o + off))
        | .pin cs => some (.pin (cs.drop off))
        | _ => none
def evField (s : TypeId) (x : AV) (f : Nat) : Option AV :=
  match fieldsOf tb s, x with
  | some fs, .agg cs => match fs[f]? with
    | some (off, ft) => match tb[ft]? with
      | some ti => takeCells ti cs off
      | none => none
    | none => none
  | _, _ => none
def evBuild (t : TypeId) (parts : List (Nat × AV)) : Option AV :=
  match tb[t]? with
  | none => none
  | some ti =>
    if ti.zero.isEmpty then none else
    match ti.desc with
    | .struct fs => if fs.any fun f => (tsize tb f.2).isNone then none else (fillL (fun i => (fs[i]?).bind fun f => (tsize tb f.2).map fun s => (f.1, s)) ti.zero parts).map .agg
    | .array _ e => match tsize tb e with
      | some s => (fillL (fun i => some (i * s, s)) ti.zero parts).map .agg
      | none => none
    | _ => none
def evBuildSlice (t : TypeId) (len : Nat) (parts : List (Nat × AV)) : Option AV :=
  match descOf tb t with
  | some (.slice e) => match tb[e]? with
    | some te =>
      if len * te.size > 16777216 ∨ te.zero.length ≠ te.size ∨ te.size = 0 ∨ (te.agg = false ∧ te.size ≠ 1) then none else
      match fillL (fun i => some (i * te.size, te.size)) (List.replicate len te.zero).flatten parts with
      | some cells => if stillL (cleanL cells) then some (.slice .full te.size (chunk te.agg te.size len (cleanL cells))) else none
      | none => none
    | none => none
  | _ => none

/-- The elements that an append takes from its second operand. -/
def srcOf : AV → Option (List AV)
  | .slice _ _ es => some es
  | .nils => some []
  | .str s => some (ofBytes s)
  | _ => none
def srcOk (sz : Nat) : AV → Bool
  | .slice _ s _ => s == sz
  | .nils => true
  | .str _ => sz == 1
  | _ => false
def srcTy : TD → Bool
  | .slice _ => true
  | .string => true
  | _ => false
def roomy (bytes need : Nat) : Bool := decide (0 < bytes ∧ (2 * need + 1024) * bytes ≤ 140737488355328)

def evAppend (pl : Bool) (dst : Nat) (H : Heap) (t : TypeId) (u : TypeId) (s x : AV) : Option OpR :=
  match descOf tb t, descOf tb u, srcOf x with
  | some (.slice e), some du, some ys =>
    match tb[e]? with
    | none => none
    | some te =>
      if !srcTy du || te.zero.isEmpty || te.zero.length != te.size || !srcOk te.size x then none else
      match s with
      | .nils => if pl then (if roomy te.bytes ys.length then some { v := .slice .none te.size ys } else none) else if ys.isEmpty then some { v := .nils } else
        if roomy te.bytes ys.length then
          some { v := .slice (.buf (.loc dst)) te.size ys, ws := [(.loc dst, .buf te.size ys.length)], fresh := true } else none
      | .slice .full sz es =>
        if sz ≠ te.size then none else
        if pl then (if roomy te.bytes (es.length + ys.length) then some { v := .slice .none sz (es ++ ys) } else none) else if ys.isEmpty then some { v := .slice .full sz es } else
        if roomy te.bytes (es.length + ys.length) then
          some { v := .slice (.buf (.loc dst)) sz (es ++ ys), ws := [(.loc dst, .buf sz (es.length + ys.length))], fresh := true } else none
      | .slice (.buf b) sz es =>
        if sz ≠ te.size then none else
        match find H b with
        | some (.buf sz' n) =>
          if sz' = sz ∧ n = es.length ∧ roomy te.bytes (es.length + ys.length) then
            some { v := .slice (.buf b) sz (es ++ ys), ws := [(b, .buf sz (es.length + ys.length))], rd := [b] } else none
        | _ => none
      | _ => none
  | _, _, _ => none

def evLoad (H : Heap) (t : TypeId) (a : AV) : Option OpR :=
  match tb[t]?, a with
  | some ti, .pin cs => (takeCells ti cs 0).map fun v => { v }
  | some ti, .ptr b off => match find H b with
    | some (.cells _ cs) => (takeCells ti cs off).map fun v => { v, rd := [b] }
    | _ => none
  | _, _ => none

/-- What is stored in a cell: a spare stays known only under the cell's own name. -/
def keepTok (o : Oid) (j : Nat) : AV → AV
  | .slice (.buf b) s es => if b = .cl o j then .slice (.buf b) s es else .slice .none s es
  | v => clean v
def keepToks (o : Oid) (j : Nat) : List AV → List AV
  | [] => []
  | v :: r => keepTok o j v :: keepToks o (j + 1) r
def evStore (H : Heap) (t : TypeId) (a v : AV) : Option OpR :=
  match tb[t]?, a with
  | some ti, .ptr b off => match find H b with
    | some (.cells true cs) =>
      if (cellsOf v).length = ti.size ∧ off + (cellsOf v).length ≤ cs.length ∧ b.root = b ∧ (cellsOf v).all cellOk = true then
        some { v := .tuple [], ws := [(b, .cells true (setRange cs off (keepToks b off (cellsOf v))))], rd := [b] }
      else none
    | _ => none
  | _, _ => none

/-- Cells in which nil slices begin to grow. -/
def growCells (o : Oid) (l : List (Nat × Nat)) (cs : List AV) : List AV × List (Oid × Ob) :=
  l.foldl (fun (r : List AV × List (Oid × Ob)) (js : Nat × Nat) =>
    match r.1[js.1]? with
    | some .nils => (r.1.set js.1 (.slice (.buf (.cl o js.1)) js.2 []), r.2 ++ [(.cl o js.1, .buf js.2 0)])
    | _ => r) (cs, [])
def evBox (acc : List (Nat × Nat)) (dst : Nat) (cs : List AV) : Option OpR :=
  let r := growCells (.loc dst) acc (cleanL cs)
  if (refsL cs).any (fun o => o.root = .loc dst) then none
  else some { v := .ptr (.loc dst) 0, ws := (.loc dst, .cells true r.1) :: r.2, fresh := true }

def mm2 (isMax : Bool) : AV → AV → Option AV
  | .int k a, .int k' b => if k = k' then some (.int k (if (if isMax then b > a else b < a) then b else a)) else none
  | _, _ => none
def minMaxFrom (isMax : Bool) (x : AV) : List AV → Option AV
  | [] => some x
  | y :: r => match mm2 isMax x y with
    | some z => minMaxFrom isMax z r
    | none => none
def minMax (isMax : Bool) : List AV → Option AV
  | [] => none
  | x :: r => minMaxFrom isMax x r

/-! ### calls -/
/-- The objects that can be reached from these, in the order in which they are met. -/
def reach (H : Heap) : Nat → List Oid → List Oid → Option (List Oid)
  | 0, _, _ => none
  | _ + 1, [], seen => some seen
  | n + 1, o :: todo, seen =>
    if seen.contains o then reach H n todo seen else
    match find H o with
    | some ob => reach H n (todo ++ ob.refs) (seen ++ [o])
    | none => none
def isCl : Oid → Bool
  | .cl _ _ => true
  | _ => false
def idx (ids : List Oid) (o : Oid) (i : Nat) : Option Nat :=
  match ids with
  | [] => none
  | x :: r => if x = o then some i else idx r o (i + 1)
def toExt (ids : List Oid) : Oid → Option Oid
  | .cl o j => match toExt ids o with | some o' => some (.cl o' j) | none => none
  | o => (idx ids o 0).map .ext
def ofExt (ids : List Oid) : Oid → Option Oid
  | .cl o j => match ofExt ids o with | some o' => some (.cl o' j) | none => none
  | .ext i => ids[i]?
  | .loc _ => none
def renEs (σ : Oid → Option Oid) : List (AV × AV) → Option (List (AV × AV))
  | [] => some []
  | (a, b) :: r => match ren σ a, ren σ b, renEs σ r with
    | some a', some b', some r' => some ((a', b') :: r')
    | _, _, _ => none
def renOb (σ : Oid → Option Oid) : Ob → Option Ob
  | .cells w cs => (renL σ cs).map (.cells w)
  | .buf s n => some (.buf s n)
  | .map es => (renEs σ es).map .map
/-- What of a heap has a name under σ. -/
def renHeap (σ : Oid → Option Oid) : Heap → Option Heap
  | [] => some []
  | (o, ob) :: r =>
    match σ o with
    | none => renHeap σ r
    | some o' => match renOb σ ob, renHeap σ r with
      | some ob', some r' => some ((o', ob') :: r')
      | _, _ => none
def Ob.seen : Ob → Ob
  | .cells _ cs => .cells false (cleanL cs)
  | ob => ob
def readOnly (H : Heap) : Heap := H.map fun x => (x.1, x.2.seen)

abbrev CallF := FuncId → List AV → Heap → Option (AV × Heap)

def rooted (d : Nat) (b : Oid) : Bool := decide (b.root = .loc d)
/-- A slice that the callee has grown, and that nobody else has: its spare is the caller's now. -/
def adopt (dst : Option Nat) (ids : List Oid) (r : AV) (H2 ws : Heap) : Option OpR :=
  match dst, r with
  | some d, .slice (.buf b) s es =>
    match ofExt ids b, find H2 b with
    | none, some (.buf s' n) =>
      if s' = s ∧ n = es.length ∧ (ws.all fun w => !rooted d w.1 && !w.2.refs.any (rooted d) && !w.2.toks.any (rooted d)) = true then
        some { v := .slice (.buf (.loc d)) s es, ws := (.loc d, .buf s n) :: ws, rd := ids, fresh := true }
      else none
    | _, _ => none
  | _, _ => none
def evCall (ro : FuncId → Bool) (call : CallF) (dst : Option Nat) (H : Heap) (f : FuncId) (args : List AV) : Option OpR :=
  match reach H 64 (refsL args) [] with
  | none => none
  | some ids =>
    if ids.any isCl then none else
    match renL (toExt ids) args, renHeap (toExt ids) H with
    | some args', some H' =>
      if ro f then
        match call f (cleanL args') (readOnly H') with
        | some (r, _) => match ren (ofExt ids) r with
          | some r' => some { v := clean r', rd := ids }
          | none => none
        | none => none
      else match call f (cleanL args') H' with
        | some (r, H'') => match ren (ofExt ids) r, renHeap (ofExt ids) H'' with
          | some r', some ws => some ((adopt dst ids r H'' ws).getD { v := clean r', ws, rd := ids })
          | _, _ => none
        | none => none
    | _, _ => none

/-! ### operations -/
variable (P : Program) (cfg : Cfg)

def evalA (gl : List (Nat × List AV)) (A : Slots) : Operand → AV
  | .tmp t => getA A t
  | .const v => ofVal v
  | .global g => match find gl g with | some cs => .pin cs | none => .undef
  | .func f => .fn (.func f) [] []

def adoptAt (fid : FuncId) (dst : Option Nat) : Option Nat :=
  match dst with
  | some d => if cfg.adopt fid d then some d else none
  | none => none
def evOp (call : CallF) (fid : FuncId) (ρ : Operand → AV) (H : Heap) (o : Oper) : Option OpR :=
  let v (x : Option AV) : Option OpR := x.map fun v => { v }
  match o.op with
  | .move x => some { v := ρ x }
  | .assign x =>
    match o.dst with
    | some d => if cfg.acc fid d then
        match ρ x, descOf tb o.type with
        | .nils, some (.slice e) => match tsize tb e with
          | some s => some { v := .slice (.buf (.loc d)) s [], ws := [(.loc d, .buf s 0)], fresh := true }
          | none => none
        | x, _ => some { v := x }
      else some { v := ρ x }
    | none => none
  | .pick c a b => match ρ c with | .bool t => some { v := if t then ρ a else ρ b } | _ => none
  | .alloc e => match tb[e]?, o.dst with
    | some ti, some d => if ti.zero.isEmpty then none else evBox (cfg.accCells fid d) d ti.zero
    | _, _ => none
  | .box e x => match tsize tb e, o.dst with
    | some s, some d => if (cellsOf (ρ x)).length = s ∧ noUndef (ρ x) = true then evBox (cfg.accCells fid d) d (cellsOf (ρ x)) else none
    | _, _ => none
  | .build t parts => v (evBuild tb t (parts.toList.map fun p => (p.1, ρ p.2)))
  | .buildSlice t len parts => v (evBuildSlice tb t len (parts.toList.map fun p => (p.1, ρ p.2)))
  | .load t a => evLoad tb H t (ρ a)
  | .store t a x => evStore tb H t (ρ a) (ρ x)
  | .nilCheck x => match ρ x with
    | .ptr b o => some { v := .ptr b o }
    | .pin cs => some { v := .pin cs }
    | .fn (.func f) a b => some { v := .fn (.func f) a b }
    | _ => none
  | .binOp op t x y _ => v (evBin tb op t (ρ x) (ρ y))
  | .unOp op _ x => v (evUn op (ρ x))
  | .convert s d x => v (evConv tb s d (ρ x))
  | .makeFunc f a b => match f with
    | .func _ => some { v := .fn f (a.toList.map ρ) (b.toList.map ρ) }
    | _ => none
  | .slice t x lo hi mx => v (evSlice tb t (ρ x) (lo.map ρ) (hi.map ρ) (mx.map ρ))
  | .fieldAddr s x f => v (evFieldAddr tb s (ρ x) f)
  | .field s x f => v (evField tb s (ρ x) f)
  | .indexAddr t x i => v (evIndexAddr tb t (ρ x) (ρ i))
  | .index t x i => v (evIndex tb t (ρ x) (ρ i))
  | .extract x i => match ρ x with | .tuple vs => v (vs[i]?) | _ => none
  | .call c =>
    match c.callee with
    | .value g => match ρ g with
      | .fn (.func f) first captured => evCall cfg.ro call (adoptAt cfg fid o.dst) H f (first ++ c.args.toList.map ρ ++ captured)
      | _ => none
    | .builtin .len => match c.argTypes.toList, c.args.toList.map ρ with
      | t :: _, x :: _ => match descOf tb t, x with
        | some .string, .str s => some { v := .int .i64 s.length }
        | some (.array n _), _ => some { v := .int .i64 n }
        | some (.slice _), .slice _ _ es => some { v := .int .i64 es.length }
        | some (.slice _), .nils => some { v := .int .i64 0 }
        | some (.slice _), .mref _ _ _ len _ => some { v := .int .i64 len }
        | _, _ => none
      | _, _ => none
    | .builtin .append => match o.dst, c.argTypes.toList, c.args.toList.map ρ with
      | some d, t :: u :: _, s :: x :: _ => evAppend tb (cfg.plainAp fid d) d H t u s x
      | _, _, _ => none
    | .builtin .min => v (minMax false (c.args.toList.map ρ))
    | .builtin .max => v (minMax true (c.args.toList.map ρ))
    | _ => none
  | _ => none

/-! ### code -/
structure St where
  A : Slots
  H : Heap

def insAll (H : Heap) : List (Oid × Ob) → Heap
  | [] => H
  | (o, ob) :: r => ins o ob (insAll H r)
/-- Nothing is left that speaks of the object of this slot. -/
def purge (d : Nat) (S : St) : St :=
  { A := S.A.map fun x => (x.1, strip (rooted d) x.2),
    H := (S.H.filter fun x => !rooted d x.1).map fun x => (x.1, x.2.strip (rooted d)) }
def clear (S : St) (d : Nat) : Bool :=
  (S.A.all fun x => x.1 = d || (!(refs x.2).any (rooted d) && !(toks x.2).any (rooted d))) &&
  (S.H.all fun x => !rooted d x.1 && !x.2.refs.any (rooted d) && !x.2.toks.any (rooted d))

def evWanted (ops : Array Oper) (A : Slots) (o : Oper) : Option Bool :=
  match o.guard with
  | none => some true
  | some (j, want) => match ops[j]? with
    | some oj => match oj.dst with
      | some t => match getA A t with
        | .bool b => some (b == want)
        | .tuple [] => some false
        | _ => none
      | none => none
    | none => none

def setDst (n : Nat) (dst : Option Nat) (v : AV) (A : Slots) : Option Slots :=
  match dst with
  | some d => if d < n then some (put d v A) else none
  | none => some A

def isCallV : Op → Bool
  | .call c => match c.callee with | .value _ => true | _ => false
  | _ => false
/-- One operation, in the order of the text. -/
def evStep (gl : List (Nat × List AV)) (call : CallF) (fid : FuncId) (n : Nat) (ops : Array Oper) (S : St) (o : Oper) : Option (St × OpR) :=
  match evWanted ops S.A o with
  | none => none
  | some false => (setDst n o.dst (.tuple []) S.A).map fun A => (⟨A, S.H⟩, { v := .tuple [] })
  | some true =>
    match evOp tb cfg call fid (evalA gl S.A) S.H o with
    | none => none
    | some r =>
      let S1 := if r.fresh then (match o.dst with | some d => if clear S d then S else purge d S | none => S) else S
      if r.fresh && isCallV o.op && !(match o.dst with | some d => clear S d | none => true) then none else
      (setDst n o.dst r.v S1.A).map fun A => (⟨A, insAll S1.H r.ws⟩, r)

def evOps (gl : List (Nat × List AV)) (call : CallF) (fid : FuncId) (n : Nat) (ops : Array Oper) : List Oper → St → Option St
  | [], S => some S
  | o :: r, S => match evStep tb cfg gl call fid n ops S o with
    | some (S', _) => evOps gl call fid n ops r S'
    | none => none

/-! ### a region whose order is drawn -/
/-- One operation, nothing being forgotten. -/
def evStep0 (gl : List (Nat × List AV)) (call : CallF) (fid : FuncId) (ops : Array Oper) (S : St) (o : Oper) : Option OpR :=
  match evWanted ops S.A o with
  | none => none
  | some false => some { v := .tuple [] }
  | some true => evOp tb cfg call fid (evalA gl S.A) S.H o
def putO (n : Nat) (o : Oper) (r : OpR) (S : St) : Option St :=
  match setDst n o.dst r.v S.A with
  | some A => some ⟨A, insAll S.H r.ws⟩
  | none => none
def evTrace (gl : List (Nat × List AV)) (call : CallF) (fid : FuncId) (n : Nat) (ops : Array Oper) : List Oper → St → Option (St × List OpR)
  | [], S => some (S, [])
  | o :: r, S => match evStep0 tb cfg gl call fid ops S o with
    | some x => match putO n o x S with
      | some S' => match evTrace gl call fid n ops r S' with
        | some (S'', xs) => some (S'', x :: xs)
        | none => none
      | none => none
    | none => none

/-- Which operations come surely ahead of each. -/
def befores : List Oper → List (List Nat) → List (List Nat)
  | [], acc => acc
  | o :: r, acc => befores r (acc ++ [(o.after.toList.filter (Region.binds .any)).flatMap fun e => e.on :: acc.getD e.on []])
def namesOf (ops : Array Oper) (o : Oper) : List Tmp :=
  (o.op.operands.toList.filterMap fun | .tmp t => some t | _ => none) ++
  (match o.guard with | some (j, _) => ((ops[j]?).bind (·.dst)).toList | none => [])
/-- May these two change places? By the slots that they name. -/
def apartB (ops : Array Oper) (x y : Oper) : Bool :=
  match x.dst, y.dst with
  | some d, some e => !(namesOf ops y).contains d && !(namesOf ops x).contains e && d != e
  | some d, none => !(namesOf ops y).contains d
  | none, some e => !(namesOf ops x).contains e
  | none, none => true
/-- .. by what they look at and write. -/
def offRoots (ws : List (Oid × Ob)) (bs : List Oid) : Bool := ws.all fun w => bs.all fun u => u.root != w.1.root
def apartR (x y : OpR) : Bool := offRoots x.ws y.rd && offRoots x.ws (y.ws.map (·.1)) && offRoots y.ws x.rd
/-- What the second one comes to does not speak of the object that the first one makes. -/
def offFresh (x : Oper) (p q : OpR) : Bool :=
  !p.fresh || match x.dst with
    | some d => !(refs q.v).any (rooted d) && !(toks q.v).any (rooted d) && q.ws.all fun w => !rooted d w.1 && !w.2.refs.any (rooted d) && !w.2.toks.any (rooted d)
    | none => false
def pairOk (ops : Array Oper) (bs : List (List Nat)) (rs : List OpR) (i j : Nat) : Bool :=
  match ops[i]?, ops[j]?, rs[i]?, rs[j]? with
  | some x, some y, some p, some q => offFresh y q p && ((bs.getD j []).contains i || (apartB ops x y && apartR p q && offFresh x p q))
  | _, _, _, _ => false
def freshOk (S : St) (ops : Array Oper) (rs : List OpR) (i : Nat) : Bool :=
  match ops[i]?, rs[i]? with
  | some x, some p => !p.fresh || match x.dst with | some d => clear S d | none => false
  | _, _ => false
def edgesOk (ops : Array Oper) (i : Nat) : Bool :=
  match ops[i]? with
  | some x => x.after.toList.all fun e => !Region.binds .any e || decide (e.on < i)
  | none => false
def orderOk (S : St) (ops : Array Oper) (rs : List OpR) : Bool :=
  let bs := befores ops.toList []
  (List.range ops.size).all fun j => edgesOk ops j && freshOk S ops rs j && (List.range j).all fun i => pairOk ops bs rs i j

def evDraw (gl : List (Nat × List AV)) (call : CallF) (fid : FuncId) (n : Nat) (ops : Array Oper) (S : St) : Option St :=
  match evTrace tb cfg gl call fid n ops ops.toList S with
  | none => none
  | some (S', rs) => if orderOk S ops rs then some S' else none

def killed (ds : List Nat) (b : Oid) : Bool :=
  match b.root with
  | .loc d => ds.contains d
  | _ => false
def killAll (ts ds : List Nat) (S : St) : St :=
  { A := S.A.filter fun x => ts.contains x.1,
    H := S.H.filter fun x => !killed ds x.1 }
def killO (p : Option (List Nat × List Nat)) (S : St) : St :=
  match p with
  | none => S
  | some (ts, ds) => killAll ts ds S

inductive Ex where
  | normal
  | exit (id : Nat)
  | ret
  deriving DecidableEq

def loopN (body : St → Option (Ex × St)) : Nat → St → Option (Ex × St)
  | 0, _ => none
  | k + 1, S => match body S with
    | some (.normal, S') => loopN body k S'
    | r => r

def evCode (gl : List (Nat × List AV)) (call : CallF) (fid : FuncId) (n : Nat) (k : Nat) : Code → St → Option (Ex × St)
  | .skip, S => some (.normal, S)
  | .region id ops draw, S =>
    match (if draw then evDraw tb cfg gl call fid n ops S else evOps tb cfg gl call fid n ops ops.toList S) with
    | some S' => some (.normal, killO (cfg.kill fid id) S')
    | none => none
  | .seq a b, S => match evCode gl call fid n k a S with
    | some (.normal, S') => evCode gl call fid n k b S'
    | r => r
  | .cond c a b, S => match evalA gl S.A c with
    | .bool true => evCode gl call fid n k a S
    | .bool false => evCode gl call fid n k b S
    | _ => none
  | .block id b, S => match evCode gl call fid n k b S with
    | some (.exit id', S') => if id' = id then some (.normal, S') else some (.exit id', S')
    | r => r
  | .loop b, S => loopN (evCode gl call fid n k b) k S
  | .exit id, S => some (.exit id, S)
  | .ret, S => some (.ret, S)
  | _, _ => none

def evResult (S : St) : ResultVar → Option AV
  | .tmp t => some (getA S.A t)
  | .cell a t => (evLoad tb S.H t (getA S.A a)).map (·.v)
def evResults (S : St) : List ResultVar → Option (List AV)
  | [] => some []
  | x :: r => match evResult tb S x, evResults S r with
    | some v, some vs => some (v :: vs)
    | _, _ => none
def oneOr : List AV → AV
  | [v] => v
  | vs => .tuple vs
def argSlots : Nat → List AV → Slots
  | _, [] => []
  | i, v :: r => (i, v) :: argSlots (i + 1) r

def evBody (gl : List (Nat × List AV)) (k : Nat) (call : CallF) (f : FuncId) (fn : Func) (args : List AV) (H : Heap) : Option (AV × Heap) :=
  match fn.body with
  | none => none
  | some c =>
    if args.length ≤ fn.ntmps ∧ fn.name ≠ "runtime.NumGoroutine" then
      match evCode tb cfg gl call f fn.ntmps k c ⟨argSlots 0 args, H⟩ with
      | some (.exit _, _) => none
      | some (_, S) => match evResults tb S fn.results.toList with
        | some vs => some (oneOr vs, S.H)
        | none => none
      | none => none
    else none

def ev (gl : List (Nat × List AV)) : Nat → CallF
  | 0 => fun _ _ _ => none
  | k + 1 => fun f args H => match P.funcs[f]? with
    | some fn => evBody tb cfg gl k (ev gl k) f fn args H
    | none => none

end Go.Proofs.Ytbckfbohbjhffaa.AE
