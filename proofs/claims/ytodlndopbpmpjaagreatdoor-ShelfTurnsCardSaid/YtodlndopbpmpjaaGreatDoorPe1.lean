/- A part of the proof of: A text that is turned round twice stands as it did and is as long; great letters of small ones and trimming twice turn nothing more; each text begins and ends with nothing and has itself in it (keyholelaw21.ShelfTurns answers true for every input). -/
import GoSem.Core.Program
import GoSem.Op.IntArith
import GoSem.Op.String
import GoSem.Core.Utf8
import Derived.Laws.AppendOwn
import Derived.Calls
import Derived.Deep.LoopGhost
import Derived.Laws.Rows
import Derived.Laws.Slices
import Derived.Laws.BytesArg
import Derived.Laws.IdiomStrings
import Derived.Lib.AppendStr
set_option linter.unusedSimpArgs false
set_option linter.unusedVariables false

namespace Go.Pe

inductive D where
  | bool (b : Bool)
  | int (k : IntKind) (n : Int)
  | str (s : ByteArray)
  | sl (xs : List D)
  | agg (cs : List D)
  | nilp
  | nilf
  | nili
  | ifc (t : Nat) (x : D)
  | fe      -- an empty slice without room
  | nils    -- a nil slice that stands in a struct beside a strings.Builder's address
  | ptr (x : D) (off : Nat)   -- leads to cells that are written no more
  deriving Inhabited

def D.cells : D → List D
  | .agg cs => cs
  | x => [x]
def D.isAgg : D → Bool
  | .agg _ => true
  | _ => false
def D.width (x : D) : Nat := x.cells.length

inductive PV where
  | d (x : D)
  | own (e : Nat) (xs : List D)
  | full (xs : List D)
  | nilsl
  | ibox (cs : List PV)
  | ref (t off : Nat)
  | eptr (x : D) (off : Nat)
  | ptr (id off : Nat)
  | rowh (id lo len : Nat)
  | rptr (id i off : Nat)
  | fn (f : Nat) (caps : List PV)
  | tup (vs : List PV)
  | gone
  | und
  | dead
  | fnm (f : Nat) (fst : List PV)   -- a method, bound
  | bnil (u : Nat)   -- a nil pointer, in a box in which a u lies from here on
  | iter (s : ByteArray) (pos : Nat)   -- a text that is gone through
  deriving Inhabited

inductive Ent where
  | box (cs : List PV)
  | row (sz : Nat) (xs : List D)
  | gone
  deriving Inhabited

structure St where
  tm : List PV
  hp : List Ent

inductive X where
  | t (n : Nat)
  | c (v : PV)
  | f (n : Nat)
  deriving Inhabited

inductive Cv where
  | int (k : IntKind)      -- an integer's kind
  | same                   -- string to string
  | toBytes                -- string to bytes
  | toStr                  -- bytes to string
  | rune                   -- an integer to a string
  deriving Inhabited

inductive ETy where   -- a type whose values are compared by ==
  | i | b | s              -- a whole number, a bool, a string: one cell
  | st (fs : List (Nat × Nat × ETy))   -- offsets, sizes, parts
  deriving Inhabited

inductive RO where
  | mv (m : Bool) (x : X)
  | mvt (x : X)      -- a tuple, moved
  | pick (c a b : X)
  | zal (heap : Bool) (cs : List PV)
  | bx (heap agg : Bool) (x : X)
  | bxn (n : Nat) (us : List (Nat × Nat)) (x : X)   -- a box of the store of what holds a strings.Builder
  | ld (m : Bool) (agg : Option Nat) (a : X)
  | sto (agg : Option Nat) (a x : X)
  | nchk (x : X)
  | bin (op : BinOp) (x y : X)
  | beq (neg : Bool) (x y : X)
  | eqv (neg : Bool) (t : ETy) (x y : X)
  | un (op : UnOp) (x : X)
  | conv (c : Cv) (x : X)
  | bld (zero : List D) (parts : List (Nat × Nat × X))
  | bsl (e sz : Nat) (elems : List X)
  | fad (off : Nat) (x : X)
  | fld (off : Nat) (agg : Option Nat) (x : X)
  | iad (arr : Option Nat) (sz : Nat) (x i : X)
  | six (x i : X)
  | slc (kind : Option Nat) (x : X) (lo hi mx : Option X)   -- kind: none: a string; some size: a slice
  | sla (sz : Nat) (ag : Bool) (len : Nat) (x : X) (lo hi : Option X)   -- an array, sliced: it is written no more
  | frz (sz : Nat) (ag : Bool) (x : X)      -- a row in a box of the store, handed on: it is written no more
  | lde (agg : Option Nat) (a : X)         -- loads an element of a row that is known
  | bad                                    -- an operation that is not covered: never reached
  | clr (zs : List D) (x : X)              -- a row of the store gets zeros
  | apr (e sz bytes : Nat) (x y : X)        -- append to nothing: the row comes to a box of the store
  | cvb (x : X)   -- a text's bytes, in a box of the store
  | mks (zs : List D) (bytes : Nat) (x y : X)   -- a row of zeros, in a box of the store
  | tas (t : Nat) (z : D) (x : X)           -- what an interface holds, if it is of that type
  | isn (neg : Bool) (x : X)                -- is an interface nil
  | isp (neg : Bool) (x : X)                -- is a pointer nil
  | ext (m : Bool) (x : X) (i : Nat)
  | len (str : Bool) (x : X)
  | app (e sz bytes : Nat) (x y : X)
  | minmax (max : Bool) (x : X) (xs : List X)
  | call (m : Bool) (f : X) (args : List X)
  | mkf (f : Nat) (caps : List X)
  | mkm (f : Nat) (fst : List X)   -- a method, bound
  | ldb (agg : Option Nat) (n : Nat)   -- loads what lies in a box in place
  | ldr (agg : Option Nat) (n : Nat)   -- loads what a reference to a box in place leads to
  | ldh (agg : Option Nat) (a : X)     -- loads what does not lie in a box in place
  | stb (agg : Option Nat) (n : Nat) (x : X)   -- a store into a box in place
  | mki (t : Nat) (x : X)
  | rng (x : X)   -- a text is gone through: its beginning
  | nxt (n : Nat)   -- its next sign
  | pan (x : X)
  deriving Inhabited

structure ROper where
  dst : Option Nat
  g : Option (Nat × Bool)
  op : RO
  deriving Inhabited

inductive LM where
  | kill | keep | norm (e : Nat)

inductive RCode where
  | skip
  | stuck      -- a region that is not covered: never reached
  | reg (ops : List ROper) (adr : List Nat) (draw : Bool)
  | regp (ops : List ROper) (adr : List Nat) (c : Nat)   -- it draws its order; operation c may panic
  | seq (a b : RCode)
  | seqf (a : RCode) (n : Nat) (b : RCode)   -- a sequence; between, a box in place is written no more
  | seqc (a : RCode) (live : List LM) (b : RCode)   -- a sequence; what is not live any more is forgotten between
  | cond (c : X) (a b : RCode)
  | block (id : Nat) (live : List LM) (c : RCode)
  | loop (live : List LM) (c : RCode)
  | exit (id : Nat)
  | ret (live : List LM)

inductive RV where
  | t (n : Nat)
  | cell (t : Nat) (agg : Option Nat)

structure RFunc where
  nt : Nat
  pure : Bool
  res : List RV
  body : RCode

inductive Ex where
  | norm | exit (id : Nat) | ret | pan (v : D)

inductive Out where
  | ret (v : PV) (hp : List Ent)
  | pan (v : D) (hp : List Ent)

inductive OR where
  | ok (s : St)
  | pan (v : D) (s : St)

abbrev CF := Nat → List PV → List Ent → Option Out

def PV.toD : PV → Option D
  | .d x => some x
  | .own _ xs => some (.sl xs)
  | .full xs => some (.sl xs)
  | .nilsl => some (.sl [])
  | .bnil _ => some .nilp
  | _ => none

def PV.cp : PV → Option PV
  | .own _ xs => some (.d (.sl xs))
  | .bnil _ => some (.d .nilp)
  | .ibox _ => none
  | .iter _ _ => none
  | .ref _ _ => none
  | .tup _ => none
  | .gone => none
  | .und => none
  | .dead => none
  | v => some v

def St.x (s : St) : X → PV
  | .t n => s.tm.getD n .dead
  | .c v => v
  | .f n => .fn n []

def St.put (s : St) (dst : Option Nat) (v : PV) : Option St :=
  match dst with
  | none => some s
  | some d => match s.tm.getD d .dead with
    | .ibox _ => none
    | _ => some { s with tm := s.tm.set d v }

def St.tk (s : St) (m : Bool) (x : X) : Option (PV × St) :=
  match m, x, s.x x with
  | true, .t n, .own sz xs => some (.own sz xs, { s with tm := s.tm.set n .dead })
  | _, _, v => v.cp.map (·, s)

def St.tkc (s : St) (m : Bool) (x : X) : Option (PV × St) :=
  match m, x, s.x x with
  | true, .t n, .own sz xs => some (.own sz xs, { s with tm := s.tm.set n (.d (.sl xs)) })
  | _, _, v => v.cp.map (·, s)

def optAll {α : Type} : List (Option α) → Option (List α)
  | [] => some []
  | none :: _ => none
  | some x :: r => (optAll r).map (x :: ·)

def partD (cs : List D) (off : Nat) : Option Nat → Option D
  | some n => if off + n ≤ cs.length then some (.agg ((cs.drop off).take n)) else none
  | none => cs[off]?

def elemD (x : D) (off : Nat) (agg : Option Nat) : Option D :=
  match agg with
  | some n => if off = 0 && x.isAgg && x.width = n then some x else partD x.cells off (some n)
  | none => partD x.cells off none

def cellsAgg (cs : List PV) (off n : Nat) : Option PV :=
  if off + n ≤ cs.length then (optAll (((cs.drop off).take n).map PV.toD)).map fun ds => .d (.agg ds) else none

def cellTake (m : Bool) (cs : List PV) (off : Nat) : Option (PV × List PV) :=
  match m, cs[off]? with
  | true, some (.own sz xs) => some (.own sz xs, cs.set off .dead)
  | _, some v => v.cp.map (·, cs)
  | _, none => none

def St.load (s : St) (m : Bool) (agg : Option Nat) (a : PV) (self : Option Nat) : Option (PV × St) :=
  match a, self with
  | .ibox cs, some t => match agg with
    | some n => (cellsAgg cs 0 n).map (·, s)
    | none => (cellTake m cs 0).map fun (v, cs') => (v, { s with tm := s.tm.set t (.ibox cs') })
  | .ref t off, _ => match s.tm.getD t .dead with
    | .ibox cs => match agg with
      | some n => (cellsAgg cs off n).map (·, s)
      | none => (cellTake m cs off).map fun (v, cs') => (v, { s with tm := s.tm.set t (.ibox cs') })
    | _ => none
  | .ptr id off, _ => match s.hp[id]? with
    | some (.box cs) => match agg with
      | some n => (cellsAgg cs off n).map (·, s)
      | none => (cellTake m cs off).map fun (v, cs') => (v, { s with hp := s.hp.set id (.box cs') })
    | _ => none
  | .eptr x off, _ => (elemD x off agg).map fun d => (.d d, s)
  | .rptr id i off, _ => match s.hp[id]? with
    | some (.row _ xs) => match xs[i]? with
      | some x => (elemD x off agg).map fun d => (.d d, s)
      | none => none
    | _ => none
  | _, _ => none

def ldbV (agg : Option Nat) (v : PV) : Option PV :=
  match v with
  | .ibox cs => (match agg with
    | some k => cellsAgg cs 0 k
    | none => (cellTake false cs 0).map Prod.fst)
  | _ => none

def cellV (agg : Option Nat) (cs : List PV) (off : Nat) : Option PV :=
  match agg with
  | some k => cellsAgg cs off k
  | none => (cellTake false cs off).map Prod.fst
def ldrV (agg : Option Nat) (s : St) (n : Nat) : Option PV :=
  match s.tm.getD n .dead with
  | .ref t off => (match s.tm.getD t .dead with
    | .ibox cs => cellV agg cs off
    | _ => none)
  | _ => none
def ldhV (agg : Option Nat) (hp : List Ent) (v : PV) : Option PV :=
  match v with
  | .ptr id off => (match hp[id]? with
    | some (.box cs) => cellV agg cs off
    | _ => none)
  | .eptr x off => (elemD x off agg).map .d
  | _ => none

def PV.one : PV → Bool
  | .d x => !x.isAgg
  | .own .. | .full _ | .nilsl | .eptr .. | .ptr .. | .fn .. => true
  | _ => false

def setCells (cs : List PV) (off : Nat) : List D → List PV
  | [] => cs
  | d :: r => setCells (cs.set off (.d d)) (off + 1) r

def storeIn (agg : Option Nat) (cs : List PV) (off : Nat) (v : PV) : Option (List PV) :=
  match agg with
  | some n => match v with
    | .d (.agg ds) => if ds.length = n && off + n ≤ cs.length then some (setCells cs off ds) else none
    | _ => none
  | none => if off < cs.length && v.one then some (cs.set off v) else none

def rowStore (agg : Option Nat) (x : D) (off : Nat) (v : PV) : Option D :=
  match v.toD with
  | some w => match agg with
    | some n => if off = 0 && x.isAgg && x.width = n && w.isAgg && w.width = n then some w else none
    | none => match x with
      | .agg cs => if off < cs.length && !w.isAgg then some (.agg (cs.set off w)) else none
      | _ => if off = 0 && !w.isAgg then some w else none
  | none => none

def St.store (s : St) (agg : Option Nat) (a : PV) (self : Option Nat) (v : PV) : Option St :=
  match a, self with
  | .ibox cs, some t => (storeIn agg cs 0 v).map fun cs' => { s with tm := s.tm.set t (.ibox cs') }
  | .ref t off, _ => match s.tm.getD t .dead with
    | .ibox cs => (storeIn agg cs off v).map fun cs' => { s with tm := s.tm.set t (.ibox cs') }
    | _ => none
  | .ptr id off, _ => match s.hp[id]? with
    | some (.box cs) => (storeIn agg cs off v).map fun cs' => { s with hp := s.hp.set id (.box cs') }
    | _ => none
  | .rptr id i off, _ => match s.hp[id]? with
    | some (.row sz xs) => match xs[i]? with
      | some x => (rowStore agg x off v).map fun x' => { s with hp := s.hp.set id (.row sz (xs.set i x')) }
      | none => none
    | _ => none
  | _, _ => none

def stbS (agg : Option Nat) (n : Nat) (x : X) (s : St) : Option St :=
  match s.tm.getD n .dead with
  | .ibox _ => (s.tk true x).bind fun (v, s) => s.store agg (s.tm.getD n .dead) (some n) v
  | _ => none

def X.self : X → Option Nat
  | .t n => some n
  | _ => none

def shiftD (op : BinOp) (k : IntKind) (a y : Int) : Option D :=
  if y < 0 then none else
  match op with
  | .shl => some (.int k (k.wrap (a * 2 ^ (min y.toNat k.bits))))
  | .shr => some (.int k (a.fdiv (2 ^ (min y.toNat k.bits))))
  | _ => none

def bitsD (op : BinOp) (k : IntKind) (x y : Int) : Option D :=
  match op with
  | .and => some (.int k (k.wrap (BitVec.ofInt k.bits x &&& BitVec.ofInt k.bits y).toNat))
  | .or => some (.int k (k.wrap (BitVec.ofInt k.bits x ||| BitVec.ofInt k.bits y).toNat))
  | .xor => some (.int k (k.wrap (BitVec.ofInt k.bits x ^^^ BitVec.ofInt k.bits y).toNat))
  | .andNot => some (.int k (k.wrap (BitVec.ofInt k.bits x &&& ~~~BitVec.ofInt k.bits y).toNat))
  | _ => none

def intD (op : BinOp) (k : IntKind) (x y : Int) : Option D :=
  match op with
  | .add => some (.int k (k.wrap (x + y)))
  | .sub => some (.int k (k.wrap (x - y)))
  | .mul => some (.int k (k.wrap (x * y)))
  | .quo => if y = 0 then none else some (.int k (k.wrap (x.tdiv y)))
  | .rem => if y = 0 then none else some (.int k (x.tmod y))
  | .eql => some (.bool (x == y))
  | .neq => some (.bool (x != y))
  | .lss => some (.bool (x < y))
  | .leq => some (.bool (x ≤ y))
  | .gtr => some (.bool (x > y))
  | .geq => some (.bool (x ≥ y))
  | o => bitsD o k x y

def strD (op : BinOp) (x y : ByteArray) : Option D :=
  match op with
  | .add => if x.size + y.size ≤ 140737488355328 then some (.str (x ++ y)) else none
  | .eql => some (.bool (x.toList == y.toList))
  | .neq => some (.bool !(x.toList == y.toList))
  | .lss => some (.bool (Op.bytesLess x.toList y.toList))
  | .leq => some (.bool (Op.bytesLess x.toList y.toList || x.toList == y.toList))
  | .gtr => some (.bool !(Op.bytesLess x.toList y.toList || x.toList == y.toList))
  | .geq => some (.bool !(Op.bytesLess x.toList y.toList))
  | _ => none

def binD (op : BinOp) (x y : D) : Option D :=
  match x, y with
  | .int k a, .int k' b => match op with
    | .shl => shiftD .shl k a b
    | .shr => shiftD .shr k a b
    | o => if k = k' then intD o k a b else none
  | .str a, .str b => strD op a b
  | _, _ => none

def unD (op : UnOp) (x : D) : Option D :=
  match op, x with
  | .neg, .int k n => some (.int k (k.wrap (0 - n)))
  | .not, .bool b => some (.bool !b)
  | .xor, .int k n => bitsD .xor k (if k.signed then -1 else k.max) n
  | _, _ => none

def ETy.part (n : Nat) : ETy → Option Nat
  | .st _ => some n
  | _ => none

mutual
def eqD : ETy → D → D → Option Bool
  | .i, x, y => match x, y with
    | .int k a, .int k' b => if k = k' then some (a == b) else none
    | _, _ => none
  | .b, x, y => match x, y with
    | .bool a, .bool b => some (a == b)
    | _, _ => none
  | .s, x, y => match x, y with
    | .str a, .str b => some (a.toList == b.toList)
    | _, _ => none
  | .st fs, x, y => match x, y with
    | .agg xs, .agg ys => eqDs fs xs ys
    | _, _ => none
def eqDs : List (Nat × Nat × ETy) → List D → List D → Option Bool
  | [], _, _ => some true
  | (o, n, t) :: r, xs, ys =>
    match partD xs o (t.part n), partD ys o (t.part n) with
    | some a, some b => match eqD t a b with
      | some true => eqDs r xs ys
      | some false => some false
      | none => none
    | _, _ => none
end

def asByte : D → Option UInt8
  | .int .u8 n => some (UInt8.ofNat n.toNat)
  | _ => none

def convD (c : Cv) (x : PV) : Option PV :=
  match c, x.toD with
  | .int k, some (.int _ n) => some (.d (.int k (k.wrap n)))
  | .same, some (.str s) => some (.d (.str s))
  | .toBytes, some (.str s) => some (.d (.sl (s.data.toList.map fun b => .int .u8 b.toNat)))
  | .toStr, some (.sl xs) => (optAll (xs.map asByte)).map fun l => .d (.str ⟨l.toArray⟩)
  | .rune, some (.int _ n) => some (.d (.str (Utf8.encode n)))
  | _, _ => none

def setDs (zs : List D) (off : Nat) : List D → List D
  | [] => zs
  | d :: r => setDs (zs.set off d) (off + 1) r

def fillD (s : St) (zs : List D) : List (Nat × Nat × X) → Option (List D)
  | [] => some zs
  | (o, n, x) :: r => match (s.x x).toD with
    | some v => if v.width = n && o + n ≤ zs.length then fillD s (setDs zs o v.cells) r else none
    | none => none

def boundsOk (lo hi len : Int) : Bool := 0 ≤ lo && lo ≤ hi && hi ≤ len

def optInt (s : St) : Option X → Int → Option Int
  | none, d => some d
  | some x, _ => match (s.x x).toD with
    | some (.int _ n) => some n
    | _ => none

def cutD (xs : List D) (l h : Int) : List D := (xs.take h.toNat).drop l.toNat

def sliceOp (s : St) (kind : Option Nat) (x : X) (lo hi mx : Option X) : Option PV :=
  match kind, (s.x x).toD with
  | none, some (.str b) => match optInt s lo 0, optInt s hi b.size, mx with
    | some l, some h, none => if boundsOk l h b.size then some (.d (.str (b.extract l.toNat h.toNat))) else none
    | _, _, _ => none
  | some sz, none => match s.x x, mx with
    | .rowh id b len, none => match optInt s lo 0, optInt s hi len with
      | some l, some h => if boundsOk l h len then some (.rowh id (b + l.toNat * sz) (h.toNat - l.toNat)) else none
      | _, _ => none
    | _, _ => none
  | some sz, some (.sl xs) => if xs.all (fun y => y.width == sz) then match optInt s lo 0, optInt s hi xs.length with
    | some l, some h => match mx with
      | none => if boundsOk l h xs.length then some (.d (.sl (cutD xs l h))) else none
      | some m => match optInt s (some m) 0 with
        | some m => if boundsOk l h xs.length && m == h then some (.full (cutD xs l h)) else none
        | none => none
    | _, _ => none
    else none
  | _, _ => none

def chunkD (sz : Nat) : Nat → List D → List D
  | 0, _ => []
  | n + 1, ds => .agg (ds.take sz) :: chunkD sz n (ds.drop sz)

def rowsD (sz : Nat) (ag : Bool) (len : Nat) (ds : List D) : List D := if ag then chunkD sz len ds else ds

def PV.isRef (n : Nat) : PV → Bool
  | .ref t _ => t == n
  | _ => false

def slaOp (s : St) (sz : Nat) (ag : Bool) (len : Nat) (x : X) (lo hi : Option X) : Option (PV × St) :=
  match x, s.x x with
  | .t n, .ibox cs => match optAll (cs.map PV.toD) with
    | some ds => if ds.length = len * sz && ds.all (fun d => !d.isAgg) && (ag || sz == 1) && !s.tm.any (PV.isRef n) then
        match optInt s lo 0, optInt s hi len with
        | some l, some h => if boundsOk l h len then some (.d (.sl (cutD (rowsD sz ag len ds) l h)), { s with tm := s.tm.set n (.eptr (.agg ds) 0) }) else none
        | _, _ => none
      else none
    | none => none
  | _, _ => none

def maxRow : Nat := 140737488355328

def rowOk (sz bytes : Nat) (xs ys : List D) : Bool := decide ((xs.length + ys.length) * bytes ≤ maxRow) && ys.all (fun y => y.width == sz)

def apqOp (s : St) (e sz bytes : Nat) (x y : X) : Option (PV × St) :=
  match (s.x y).toD with
  | some (.sl ys) =>
    match x, s.x x with
    | .t n, .own e' xs => if e' = e then if rowOk sz bytes xs ys then some (.own e (xs ++ ys), { s with tm := s.tm.set n .dead }) else none else none
    | _, .full xs => if rowOk sz bytes xs ys && xs.all (fun y => y.width == sz) && !ys.isEmpty then some (.own e (xs ++ ys), s) else none
    | _, .nilsl => if rowOk sz bytes [] ys then some (.own e ys, s) else none
    | _, .d .fe => if rowOk sz bytes [] ys then (if ys.isEmpty then some (.d .fe, s) else some (.own e ys, s)) else none
    | _, _ => none
  | _ => none

def bytesD (l : List UInt8) : List D := l.map fun b => .int .u8 b.toNat
def apsOp (s : St) (e : Nat) (x y : X) : Option (PV × St) :=
  match (s.x y).toD with
  | some (.str b) =>
    match x, s.x x with
    | .t n, .own e' xs => if e' = e then if xs.length + b.size ≤ 140737488355328 then some (.own e (xs ++ bytesD b.data.toList), { s with tm := s.tm.set n .dead }) else none else none
    | _, .nilsl => if b.size ≤ 140737488355328 then some (.own e (bytesD b.data.toList), s) else none
    | _, _ => none
  | _ => none
def appOp (s : St) (e sz bytes : Nat) (x y : X) : Option (PV × St) :=
  if bytes = 0 then apsOp s e x y else apqOp s e sz bytes x y

def flatD (ys : List D) : List PV := (ys.flatMap D.cells).map PV.d
def rowEnt (ys : List D) : Ent := if ys.isEmpty then .gone else .box (flatD ys)

def aprOp (s : St) (e sz bytes : Nat) (x y : X) : Option (PV × St) :=
  match (s.x y).toD with
  | some (.sl ys) =>
    match x, s.x x with
    | .t n, .own e' [] => if e' = e then if rowOk sz bytes [] ys then some (.rowh s.hp.length 0 ys.length, ⟨s.tm.set n .dead, s.hp ++ [rowEnt ys]⟩) else none else none
    | _, _ => none
  | _ => none

def frzOp (s : St) (sz : Nat) (ag : Bool) (x : X) : Option (PV × St) :=
  match s.x x with
  | .rowh id lo len => if len = 0 then some (.d (.sl []), s) else match s.hp[id]? with
    | some (.box cs) => match optAll (((cs.drop lo).take (len * sz)).map PV.toD) with
      | some ds => if ds.length = len * sz && ds.all (fun d => !d.isAgg) && (ag || sz == 1) then some (.d (.sl (rowsD sz ag len ds)), { s with hp := s.hp.set id .gone }) else none
      | none => none
    | _ => none
  | v => v.cp.map (·, s)

def elV (agg : Option Nat) : PV → Option D
  | .eptr x off => elemD x off agg
  | _ => none

def zeroDs (zs : List D) (n : Nat) : List D := (List.range (n * zs.length)).map fun i => zs.getD (i % zs.length) .nilp

def clrOp (s : St) (zs : List D) (x : X) : Option St :=
  match s.x x with
  | .rowh id lo len => if len = 0 then some s else match s.hp[id]? with
    | some (.box cs) => (storeIn (some (len * zs.length)) cs lo (.d (.agg (zeroDs zs len)))).map fun cs' => { s with hp := s.hp.set id (.box cs') }
    | _ => none
  | _ => none

def mksOp (s : St) (zs : List D) (bytes : Nat) (x y : X) : Option (PV × St) :=
  match (s.x x).toD, (s.x y).toD with
  | some (.int _ n), some (.int _ m) => if 0 ≤ n ∧ n = m ∧ n * bytes ≤ 140737488355328 then some (.rowh s.hp.length 0 n.toNat, { s with hp := s.hp ++ [.box ((zeroDs zs n.toNat).map PV.d)] }) else none
  | _, _ => none

def bsD (b : ByteArray) : List D := b.data.toList.map fun c => .int .u8 c.toNat
def cvbOp (s : St) (x : X) : Option (PV × St) :=
  match (s.x x).toD with
  | some (.str b) => some (.rowh s.hp.length 0 b.size, { s with hp := s.hp ++ [rowEnt (bsD b)] })
  | _ => none

def tasD (t : Nat) (z : D) : D → Option PV
  | .ifc t' y => some (.tup (if t' = t then [.d y, .d (.bool true)] else [.d z, .d (.bool false)]))
  | .nili => some (.tup [.d z, .d (.bool false)])
  | _ => none

def isnD (neg : Bool) : D → Option D
  | .ifc _ _ => some (.bool neg)
  | .nili => some (.bool !neg)
  | _ => none

def ispV (neg : Bool) : PV → Option PV
  | .ptr _ _ | .eptr _ _ | .d (.ptr _ _) => some (.d (.bool neg))
  | .d .nilp | .bnil _ => some (.d (.bool !neg))
  | _ => none

def lenOp (str : Bool) (v : PV) : Option D :=
  match str, v.toD with
  | true, some (.str b) => some (.int .i64 b.size)
  | false, some (.sl xs) => some (.int .i64 xs.length)
  | false, some .fe => some (.int .i64 0)
  | false, none => match v with
    | .rowh _ _ len => some (.int .i64 len)
    | _ => none
  | _, _ => none

def minMax (mx : Bool) (a b : D) : Option D :=
  match a, b with
  | .int k x, .int k' y => if k = k' then some (.int k (if mx then (if y > x then y else x) else (if y < x then y else x))) else none
  | _, _ => none

def minMaxs (s : St) (mx : Bool) (a : D) : List X → Option D
  | [] => some a
  | x :: r => match (s.x x).toD with
    | some b => match minMax mx a b with
      | some c => minMaxs s mx c r
      | none => none
    | none => none

def PV.flat : PV → Bool
  | .d _ | .own .. | .full _ | .nilsl => true
  | .tup vs => vs.all fun | .d _ | .own .. | .full _ | .nilsl => true | _ => false
  | _ => false

def PV.demote : PV → PV
  | .own _ xs => .d (.sl xs)
  | .nilsl => .d (.sl [])
  | v => v

def killAll (tm : List PV) : List Nat → List PV
  | [] => tm
  | t :: r => killAll (match tm.getD t .dead with | .ibox _ => tm | _ => tm.set t .dead) r

def okPut (s : St) (dst : Option Nat) (v : PV) : Option OR := (s.put dst v).map .ok

def addrOff (off : Nat) (v : PV) (self : Option Nat) : Option PV :=
  match v, self with
  | .ibox _, some t => some (.ref t off)
  | .ref t o, _ => some (.ref t (o + off))
  | .ptr id o, _ => some (.ptr id (o + off))
  | .eptr x o, _ => some (.eptr x (o + off))
  | .rptr id i o, _ => some (.rptr id i (o + off))
  | _, _ => none

def bxnCell (us : List (Nat × Nat)) (j : Nat) : D → PV
  | .nils => .nilsl
  | .nilp => (match us.find? (fun p => p.1 == j) with | some p => .bnil p.2 | none => .d .nilp)
  | x => .d x
def bxnCells (us : List (Nat × Nat)) : Nat → List D → List PV
  | _, [] => []
  | j, d :: ds => bxnCell us j d :: bxnCells us (j + 1) ds

def evOp (cf : CF) (dst : Option Nat) (o : RO) (s : St) : Option OR :=
  match o with
  | .mv m x => (s.tkc m x).bind fun (v, s) => okPut s dst v
  | .mvt x => match s.x x, x with
    | .tup vs, .t n => okPut { s with tm := s.tm.set n .dead } dst (.tup vs)
    | _, _ => none
  | .pick c a b => match (s.x c).toD with
    | some (.bool t) => (if t then (s.x a).cp else (s.x b).cp).bind (okPut s dst)
    | _ => none
  | .zal heap cs => if heap then (okPut { s with hp := s.hp ++ [.box cs] } dst (.ptr s.hp.length 0)) else okPut s dst (.ibox cs)
  | .bx heap agg x =>
    (if agg then match (s.x x).toD with | some (.agg ds) => some (ds.map PV.d) | _ => none
      else (s.x x).cp.bind fun q => if q.one then some [q] else none).bind fun cs =>
    if heap then okPut { s with hp := s.hp ++ [.box cs] } dst (.ptr s.hp.length 0) else okPut s dst (.ibox cs)
  | .bxn n us x => match (s.x x).toD with
    | some (.agg ds) => if ds.length = n then okPut { s with hp := s.hp ++ [.box (bxnCells us 0 ds)] } dst (.ptr s.hp.length 0) else none
    | _ => none
  | .ld m agg a => (s.load m agg (s.x a) a.self).bind fun (v, s) => okPut s dst v
  | .sto agg a x => (s.tk true x).bind fun (v, s) => (s.store agg (s.x a) a.self v).map .ok
  | .rng x => match (s.x x).toD with
    | some (.str b) => okPut s dst (.iter b 0)
    | _ => none
  | .nxt n => match s.tm.getD n .dead with
    | .iter b pos => if pos < b.size then okPut { s with tm := s.tm.set n (.iter b (pos + (Utf8.decode b pos).2)) } dst (.tup [.d (.bool true), .d (.int .i64 pos), .d (.int .i32 (Utf8.decode b pos).1)])
      else okPut s dst (.tup [.d (.bool false)])
    | _ => none
  | .nchk x => match s.x x with
    | .ptr id o => okPut s dst (.ptr id o)
    | .eptr y o => okPut s dst (.eptr y o)
    | .d (.ptr y o) => okPut s dst (.eptr y o)
    | .rptr id i o => okPut s dst (.rptr id i o)
    | _ => none
  | .bin op x y => match (s.x x).toD, (s.x y).toD with
    | some a, some b => (binD op a b).bind fun r => okPut s dst (.d r)
    | _, _ => none
  | .beq neg x y => match (s.x x).toD, (s.x y).toD with
    | some (.bool a), some (.bool b) => okPut s dst (.d (.bool (if neg then !(a == b) else (a == b))))
    | _, _ => none
  | .eqv neg t x y => match (s.x x).toD, (s.x y).toD with
    | some a, some b => (eqD t a b).bind fun r => okPut s dst (.d (.bool (if neg then !r else r)))
    | _, _ => none
  | .un op x => match (s.x x).toD with
    | some a => (unD op a).bind fun r => okPut s dst (.d r)
    | _ => none
  | .conv c x => (convD c (s.x x)).bind (okPut s dst)
  | .bld zero parts => (fillD s zero parts).bind fun cs => okPut s dst (.d (.agg cs))
  | .bsl e sz elems => (optAll (elems.map fun x => (s.x x).toD)).bind fun es =>
    if es.all (fun y => y.width == sz) then okPut s dst (.own e es) else none
  | .fad off x => (addrOff off (s.x x) x.self).bind (okPut s dst)
  | .fld off agg x => match (s.x x).toD with
    | some (.agg cs) => (partD cs off agg).bind fun d => okPut s dst (.d d)
    | _ => none
  | .iad arr sz x i => match (s.x i).toD with
    | some (.int _ n) => match arr with
      | some len => if 0 ≤ n ∧ n < len then (addrOff (n.toNat * sz) (s.x x) x.self).bind (okPut s dst) else none
      | none => match s.x x with
        | .rowh id lo len => if 0 ≤ n ∧ n < len then okPut s dst (.ptr id (lo + n.toNat * sz)) else none
        | v => match v.toD with
          | some (.sl xs) => if 0 ≤ n then match xs[n.toNat]? with
            | some e => if e.width = sz then okPut s dst (.eptr e 0) else none
            | none => none else none
          | _ => none
    | _ => none
  | .six x i => match (s.x x).toD, (s.x i).toD with
    | some (.str b), some (.int _ n) => if 0 ≤ n then match b[n.toNat]? with
      | some u => okPut s dst (.d (.int .u8 u.toNat))
      | none => none else none
    | _, _ => none
  | .slc kind x lo hi mx => (sliceOp s kind x lo hi mx).bind (okPut s dst)
  | .clr zs x => (clrOp s zs x).map .ok
  | .lde agg a => ((elV agg (s.x a)).map .d).bind (okPut s dst)
  | .bad => none
  | .sla sz ag len x lo hi => (slaOp s sz ag len x lo hi).bind fun (v, s) => okPut s dst v
  | .frz sz ag x => (frzOp s sz ag x).bind fun (v, s) => okPut s dst v
  | .apr e sz bytes x y => (aprOp s e sz bytes x y).bind fun (v, s) => okPut s dst v
  | .cvb x => (cvbOp s x).bind fun (v, s) => okPut s dst v
  | .mks zs bytes x y => (mksOp s zs bytes x y).bind fun (v, s) => okPut s dst v
  | .tas t z x => ((s.x x).toD.bind (tasD t z)).bind (okPut s dst)
  | .isp neg x => (ispV neg (s.x x)).bind (okPut s dst)
  | .isn neg x => ((s.x x).toD.bind (isnD neg)).bind fun d => okPut s dst (.d d)
  | .ext m x i => match s.x x, x with
    | .tup vs, .t n => match vs[i]? with
      | some v => if m then match v with
          | .own e xs => okPut { s with tm := s.tm.set n (.tup (vs.set i .dead)) } dst (.own e xs)
          | v => v.cp.bind (okPut s dst)
        else v.cp.bind (okPut s dst)
      | none => none
    | _, _ => none
  | .len str x => (lenOp str (s.x x)).bind fun r => okPut s dst (.d r)
  | .app e sz bytes x y => (appOp s e sz bytes x y).bind fun (v, s) => okPut s dst v
  | .minmax mx x xs => match (s.x x).toD with
    | some a => (minMaxs s mx a xs).bind fun r => okPut s dst (.d r)
    | _ => none
  | .call m f args => match s.x f with
    | .fn g caps => (optAll (args.map fun x => (s.x x).cp)).bind fun vs =>
      (cf g (vs ++ caps) s.hp).bind fun
        | .ret v hp => okPut { s with hp } dst (if m then v else v.demote)
        | .pan v hp => some (.pan v { s with hp })
    | .fnm g fst => (optAll (args.map fun x => (s.x x).cp)).bind fun vs =>
      (cf g (fst ++ vs) s.hp).bind fun
        | .ret v hp => okPut { s with hp } dst (if m then v else v.demote)
        | .pan v hp => some (.pan v { s with hp })
    | _ => none
  | .mkm f caps => (optAll (caps.map fun x => (s.x x).cp)).bind fun vs => okPut s dst (.fnm f vs)
  | .ldb agg n => (ldbV agg (s.tm.getD n .dead)).bind (okPut s dst)
  | .ldr agg n => (ldrV agg s n).bind (okPut s dst)
  | .ldh agg a => (ldhV agg s.hp (s.x a)).bind (okPut s dst)
  | .stb agg n x => (stbS agg n x s).map .ok
  | .mkf f caps => (optAll (caps.map fun x => (s.x x).cp)).bind fun vs => okPut s dst (.fn f vs)
  | .mki t x => match (s.x x).toD with
    | some y => okPut s dst (.d (.ifc t y))
    | none => none
  | .pan x => match (s.x x).toD with
    | some (.ifc t y) => some (.pan (.ifc t y) s)
    | _ => none

def wanted (s : St) : Option (Nat × Bool) → Option Bool
  | none => some true
  | some (t, want) => match (s.tm.getD t .dead) with
    | .d (.bool b) => some (b == want)
    | .und => some false
    | _ => none

def evOps (cf : CF) : List ROper → St → Option OR
  | [], s => some (.ok s)
  | o :: r, s => match wanted s o.g with
    | some true => match evOp cf o.dst o.op s with
      | some (.ok s') => evOps cf r s'
      | x => x
    | some false => match s.put o.dst .und with
      | some s' => evOps cf r s'
      | none => none
    | none => none

def St.head (s : St) (live : List LM) : St :=
  { s with tm := go live s.tm }
  where
  go : List LM → List PV → List PV
    | [], l => l.map fun _ => .dead
    | _, [] => []
    | .kill :: m, _ :: l => .dead :: go m l
    | .keep :: m, v :: l => (match v with | .ref .. => .dead | v => v) :: go m l
    | .norm sz :: m, v :: l => (match v with | .nilsl => .own sz [] | .ref .. => .dead | v => v) :: go m l

def freeze1 (s : St) (n : Nat) : Option St :=
  match s.tm.getD n .dead with
  | .ibox cs => match optAll (cs.map PV.toD) with
    | some ds => if ds.all (fun d => !d.isAgg) && !s.tm.any (PV.isRef n) then some { s with tm := s.tm.set n (.eptr (.agg ds) 0) } else none
    | none => none
  | _ => none

def evIter (body : St → Option (Ex × St)) (live : List LM) : Nat → St → Option (Ex × St)
  | 0, _ => none
  | n + 1, s => match body (s.head live) with
    | some (.norm, s') => evIter body live n s'
    | r => r

def drawEnd : Bool → OR → Option OR
  | true, .pan _ _ => none
  | _, r => some r

def regEnd (s : St) (adr : List Nat) : OR → Ex × St
  | .ok s' => (.norm, { s' with tm := killAll s'.tm adr })
  | .pan v s' => (.pan v, s')

def PV.isPtr : PV → Bool
  | .ptr _ _ => true
  | _ => false

def dreadTm (W : List Nat) : Nat → List PV → List PV
  | _, [] => []
  | i, p :: l => (if p.isPtr && !W.contains i then p else .dead) :: dreadTm W (i + 1) l
def dreadHp (hp : List Ent) : List Ent := hp.map fun
  | .box cs => .box (cs.map fun _ => .dead)
  | _ => .gone
def dread (W : List Nat) (s : St) : St := ⟨dreadTm W 0 s.tm, dreadHp s.hp⟩

def panAt (cf : CF) (o : ROper) (s : St) : Option D :=
  match wanted s o.g with
  | some true => match evOp cf o.dst o.op s with
    | some (.pan v _) => some v
    | _ => none
  | _ => none

def moved : RO → List Nat
  | .mv m (.t n) => if m then [n] else []
  | .mvt (.t n) => [n]
  | .sto _ _ (.t n) => [n]
  | .ext m (.t n) _ => if m then [n] else []
  | .app _ _ _ (.t n) _ => [n]
  | .stb _ _ (.t n) => [n]
  | _ => []
def dsts (ops : List ROper) : List Nat := ops.flatMap fun o => o.dst.toList ++ moved o.op

def regpK (W : List Nat) (adr : List Nat) (s : St) : Option D → Option OR → Option (Ex × St)
  | some v, _ => some (.pan v, dread W s)
  | none, some (.ok f) => some (.norm, { f with tm := killAll f.tm adr })
  | none, _ => none

def evRegp (cf : CF) (ops : List ROper) (adr : List Nat) (c : Nat) (s : St) : Option (Ex × St) :=
  match evOps cf (ops.take c) s with
  | some (.ok s1) => regpK (dsts ops) adr s (ops[c]?.bind fun o => panAt cf o s1) (evOps cf (ops.drop c) s1)
  | _ => none

def evCode (cf : CF) (n : Nat) : RCode → St → Option (Ex × St)
  | .skip, s => some (.norm, s)
  | .stuck, _ => none
  | .reg ops adr d, s => ((evOps cf ops s).bind (drawEnd d)).map (regEnd s adr)
  | .regp ops adr c, s => evRegp cf ops adr c s
  | .seq a b, s => match evCode cf n a s with
    | some (.norm, s') => evCode cf n b s'
    | r => r
  | .seqf a k b, s => match evCode cf n a s with
    | some (.norm, s') => match freeze1 s' k with
      | some s2 => evCode cf n b s2
      | none => none
    | r => r
  | .seqc a live b, s => match evCode cf n a s with
    | some (.norm, s') => evCode cf n b (s'.head live)
    | r => r
  | .cond c a b, s => match s.x c with
    | .d (.bool t) => match t with
      | true => evCode cf n a s
      | false => evCode cf n b s
    | _ => none
  | .block id live c, s => match evCode cf n c s with
    | some (.exit i, s') => if i = id then some (.norm, s'.head live) else some (.exit i, s')
    | some (.norm, s') => some (.norm, s'.head live)
    | r => r
  | .loop live c, s => evIter (evCode cf n c) live n s
  | .exit id, s => some (.exit id, s)
  | .ret live, s => some (.ret, s.head live)

def resOf (s : St) : RV → Option PV
  | .t n => match s.tm.getD n .dead with
    | .own sz xs => some (.own sz xs)
    | v => v.cp
  | .cell t agg => match s.tm.getD t .dead with
    | .ibox cs => match agg with
      | some n => cellsAgg cs 0 n
      | none => match cs with
        | [v] => match v with
          | .own sz xs => some (.own sz xs)
          | v => v.cp
        | _ => none
    | .ptr id 0 => match s.hp[id]? with
      | some (.box cs) => match agg with
        | some n => cellsAgg cs 0 n
        | none => match cs with
          | [v] => v.cp
          | _ => none
      | _ => none
    | _ => none

def results (s : St) : List RV → Option PV
  | [r] => resOf s r
  | rs => (optAll (rs.map (resOf s))).map .tup

mutual
def PV.hfree : PV → Bool
  | .ptr _ _ | .rowh _ _ _ | .rptr _ _ _ => false
  | .fn _ caps => PV.hfrees caps
  | .fnm _ caps => PV.hfrees caps
  | _ => true
def PV.hfrees : List PV → Bool
  | [] => true
  | p :: ps => p.hfree && PV.hfrees ps
end

inductive RTri where
  | seq (a : RCode) (r : RTri)
  | dfr (args : List X) (post : RCode)

structure RHand where
  fn : Nat
  nt : Nat
  dst : Nat
  body : RCode

def evH (cf : CF) (n : Nat) (h : RHand) (vs : List PV) (rv : D) (hp : List Ent) : Option (List Ent) :=
  match evCode cf n h.body ⟨(vs ++ List.replicate (h.nt - vs.length) PV.dead).set h.dst (.d rv), hp⟩ with
  | some (.norm, s) | some (.ret, s) => some s.hp
  | _ => none

def triFin (cf : CF) (n : Nat) (h : RHand) (vs : List PV) : Option (Ex × St) → Option (Ex × St)
  | some (.norm, s) | some (.ret, s) => (evH cf n h vs .nili s.hp).map fun hp => (.ret, { s with hp })
  | some (.pan v, s) => (evH cf n h vs v s.hp).map fun hp => (.ret, { s with hp })
  | _ => none

def evTri (cf : CF) (n : Nat) (h : RHand) : RTri → St → Option (Ex × St)
  | .seq a r, s => match evCode cf n a s with
    | some (.norm, s') => evTri cf n h r s'
    | r => r
  | .dfr args post, s => match optAll (args.map fun x => (s.x x).cp) with
    | some vs => if vs.all PV.isPtr then triFin cf n h vs (evCode cf n post s) else none
    | none => none

inductive FnD where
  | code (rf : RFunc)
  | prim (p : List PV → Option PV)
  | mk (p : List PV → Option (List D))      -- a row is made, in a box of the store
  | hp (p : List PV → List Ent → Option (PV × List Ent))   -- boxes of the store are turned
  | tri (rf : RFunc) (t : RTri) (h : RHand) -- a function that defers one that recovers

def thaw1 (hp : List Ent) : PV → PV
  | .ptr id off => match hp[id]? with
    | some (.box cs) => match optAll (cs.map PV.toD) with
      | some ds => if ds.all (fun d => !d.isAgg) then .d (.ptr (.agg ds) off) else .ptr id off
      | none => .ptr id off
    | _ => .ptr id off
  | v => v
def thaw (hp : List Ent) : PV → PV
  | .tup vs => .tup (vs.map (thaw1 hp))
  | v => thaw1 hp v

def fnEnd (rf : RFunc) (hp : List Ent) : Option (Ex × St) → Option Out
  | some (.norm, s) | some (.ret, s) => match results s rf.res with
    | some v => if rf.pure then (if (thaw s.hp v).flat then some (.ret (thaw s.hp v) hp) else none) else some (.ret v s.hp)
    | none => none
  | some (.pan v, s) => some (.pan v (if rf.pure then hp else s.hp))
  | _ => none

def evF (tab : Nat → Option FnD) : Nat → CF
  | 0, _, _, _ => none
  | n + 1, f, args, hp => match tab f with
    | none => none
    | some (.prim p) => match p args with
      | some v => if v.flat then some (.ret v hp) else none
      | none => none
    | some (.mk p) => match p args with
      | some ys => some (.ret (.rowh hp.length 0 ys.length) (hp ++ [rowEnt ys]))
      | none => none
    | some (.hp p) => match p args hp with
      | some (v, hp') => if v.flat then some (.ret v hp') else none
      | none => none
    | some (.tri rf t h) => if rf.pure && !PV.hfrees args then none else
      fnEnd rf hp (evTri (evF tab n) n h t ⟨args ++ List.replicate (rf.nt - args.length) .dead, if rf.pure then [] else hp⟩)
    | some (.code rf) => if rf.pure && !PV.hfrees args then none else
      fnEnd rf hp (evCode (evF tab n) n rf.body ⟨args ++ List.replicate (rf.nt - args.length) .dead, if rf.pure then [] else hp⟩)

end Go.Pe

namespace Go.Pe

inductive Loc where
  | tm (t j : Nat)
  | cell (id off : Nat)
  | bx (id : Nat)
  | ret (j : Nat)
  | oth (l : Loc)
  deriving DecidableEq

structure G where
  κ : Nat → Option Loc
  tip : Nat → Nat
  bb : Nat → Nat
  nb : Nat

def G.stab (g : G) (b i : Nat) : Prop := g.κ b = none ∨ i < g.tip b

inductive DRep (S : Nat → Nat → Prop) (w : World) : D → Value → Prop where
  | bool (b : Bool) : DRep S w (.bool b) (.bool b)
  | int (k : IntKind) (n : Int) : DRep S w (.int k n) (.int k n)
  | str (s : ByteArray) : DRep S w (.str s) (.string s)
  | nilp : DRep S w .nilp (.pointer none)
  | nilf : DRep S w .nilf .nilFunc
  | nili : DRep S w .nili .nilIface
  | ifc (t : Nat) (x : D) (v : Value) (h : DRep S w x v) : DRep S w (.ifc t x) (.iface t v)
  | agg (cs : List D) (vs : Array Value) (hl : vs.size = cs.length) (ha : ∀ c ∈ cs, c.isAgg = false)
      (h : ∀ (j : Nat) (c : D) (v : Value), cs[j]? = some c → vs[j]? = some v → DRep S w c v) : DRep S w (.agg cs) (.agg vs)
  | sl0 (a : Option Addr) (cap : Nat) : DRep S w (.sl []) (.slice a 0 cap)
  | fe (a : Option Addr) : DRep S w .fe (.slice a 0 0)
  | nils : DRep S w .nils (.slice none 0 0)
  | ptr (x : D) (b o off : Nat) (f : Nat → Value) (ha : ∀ c ∈ x.cells, c.isAgg = false)
      (hm : ∀ (j : Nat) (c : D), x.cells[j]? = some c → w.cell? ⟨b, o + j, none⟩ = some (f j) ∧ S b (o + j))
      (h : ∀ (j : Nat) (c : D), x.cells[j]? = some c → DRep S w c (f j)) : DRep S w (.ptr x off) (.pointer (some ⟨b, o + off, none⟩))
  | sl (xs : List D) (b o sz cap : Nat) (f : Nat → Nat → Value) (hc : xs.length ≤ cap) (hw : ∀ x ∈ xs, x.width = sz)
      (ha : ∀ x ∈ xs, ∀ c ∈ x.cells, c.isAgg = false)
      (hm : ∀ (i : Nat) (x : D) (j : Nat) (c : D), xs[i]? = some x → x.cells[j]? = some c → w.cell? ⟨b, o + i * sz + j, none⟩ = some (f i j) ∧ S b (o + i * sz + j))
      (h : ∀ (i : Nat) (x : D) (j : Nat) (c : D), xs[i]? = some x → x.cells[j]? = some c → DRep S w c (f i j)) : DRep S w (.sl xs) (.slice (some ⟨b, o, none⟩) xs.length cap)

theorem DRep.mono {S S' : Nat → Nat → Prop} {w w' : World} {x : D} {v : Value} (h : DRep S w x v)
    (hm : ∀ b i u, w.cell? ⟨b, i, none⟩ = some u → S b i → w'.cell? ⟨b, i, none⟩ = some u ∧ S' b i) : DRep S' w' x v := by
  induction h with
  | bool b => exact .bool b
  | int k n => exact .int k n
  | str s => exact .str s
  | nilp => exact .nilp
  | nilf => exact .nilf
  | nili => exact .nili
  | ifc t x v _ ih => exact .ifc t x v ih
  | agg cs vs hl ha _ ih => exact .agg cs vs hl ha ih
  | sl0 a cap => exact .sl0 a cap
  | fe a => exact .fe a
  | nils => exact .nils
  | ptr x b o off f ha hc' _ ih => exact .ptr x b o off f ha (fun j c h1 => hm _ _ _ (hc' j c h1).1 (hc' j c h1).2) ih
  | sl xs b o sz cap f hc hw ha hc' _ ih => exact .sl xs b o sz cap f hc hw ha (fun i x j c h1 h2 => hm _ _ _ (hc' i x j c h1 h2).1 (hc' i x j c h1 h2).2) ih

theorem DRep.ptr_inv {S : Nat → Nat → Prop} {w : World} {x : D} {off : Nat} {v : Value} (h : DRep S w (.ptr x off) v) :
    ∃ b o, v = .pointer (some ⟨b, o + off, none⟩) ∧ (∀ c ∈ x.cells, c.isAgg = false) ∧ ∀ (j : Nat) (c : D), x.cells[j]? = some c → ∃ u, w.cell? ⟨b, o + j, none⟩ = some u ∧ S b (o + j) ∧ DRep S w c u := by
  cases h with
  | ptr _ b o _ f ha hm h => exact ⟨b, o, rfl, ha, fun j c hj => ⟨f j, (hm j c hj).1, (hm j c hj).2, h j c hj⟩⟩
theorem DRep.oneCell {S : Nat → Nat → Prop} {w : World} {x : D} {v : Value} (h : DRep S w x v) (ha : x.isAgg = false) : v.oneCell' = true := by
  cases h <;> first | rfl | (simp [D.isAgg] at ha)

structure Flat (S : Nat → Nat → Prop) (w : World) (sz : Nat) (xs : List D) (us : List Value) : Prop where
  len : us.length = xs.length * sz
  wid : ∀ x ∈ xs, x.width = sz
  one : ∀ x ∈ xs, ∀ c ∈ x.cells, c.isAgg = false
  rep : ∀ (i : Nat) (x : D) (j : Nat) (c : D), xs[i]? = some x → x.cells[j]? = some c → ∃ u, us[i * sz + j]? = some u ∧ DRep S w c u

theorem Flat.mono {S S' : Nat → Nat → Prop} {w w' : World} {sz : Nat} {xs : List D} {us : List Value} (h : Flat S w sz xs us)
    (hm : ∀ b i u, w.cell? ⟨b, i, none⟩ = some u → S b i → w'.cell? ⟨b, i, none⟩ = some u ∧ S' b i) : Flat S' w' sz xs us :=
  ⟨h.len, h.wid, h.one, fun i x j c h1 h2 => let ⟨u, h3, h4⟩ := h.rep i x j c h1 h2; ⟨u, h3, h4.mono hm⟩⟩

theorem Flat.nil (S : Nat → Nat → Prop) (w : World) (sz : Nat) : Flat S w sz [] [] := ⟨by simp, by simp, by simp, by simp⟩

theorem row_index {n sz i j : Nat} (hi : i < n) (hj : j < sz) : i * sz + j < n * sz := by
  have : (i + 1) * sz ≤ n * sz := Nat.mul_le_mul_right _ hi
  have e : (i + 1) * sz = i * sz + sz := Nat.succ_mul i sz
  omega

theorem Flat.append {S : Nat → Nat → Prop} {w : World} {sz : Nat} {xs ys : List D} {us vs : List Value} (h : Flat S w sz xs us) (k : Flat S w sz ys vs) : Flat S w sz (xs ++ ys) (us ++ vs) := by
  refine ⟨by simp [h.len, k.len, Nat.add_mul], ?_, ?_, ?_⟩
  · intro x hx
    rcases List.mem_append.1 hx with hx | hx
    · exact h.wid x hx
    · exact k.wid x hx
  · intro x hx
    rcases List.mem_append.1 hx with hx | hx
    · exact h.one x hx
    · exact k.one x hx
  · intro i x j c h1 h2
    by_cases hi : i < xs.length
    · rw [List.getElem?_append_left hi] at h1
      obtain ⟨u, h3, h4⟩ := h.rep i x j c h1 h2
      have hj : j < sz := by
        have := h.wid x (List.mem_of_getElem? h1)
        have hjj := (List.getElem?_eq_some_iff.1 h2).1
        unfold D.width at this; omega
      refine ⟨u, ?_, h4⟩
      rw [List.getElem?_append_left (by rw [h.len]; exact row_index hi hj)]
      exact h3
    · rw [List.getElem?_append_right (by omega)] at h1
      obtain ⟨u, h3, h4⟩ := k.rep _ x j c h1 h2
      refine ⟨u, ?_, h4⟩
      have e : i * sz = xs.length * sz + (i - xs.length) * sz := by rw [← Nat.add_mul]; congr 1; omega
      rw [List.getElem?_append_right (by rw [h.len, e]; omega), h.len, e, show xs.length * sz + (i - xs.length) * sz + j - xs.length * sz = (i - xs.length) * sz + j by omega]
      exact h3

mutual
def PV.plain : PV → Bool
  | .own _ _ => false
  | .fn _ caps => PV.plains caps
  | .fnm _ caps => PV.plains caps
  | .ibox _ | .ref _ _ | .tup _ | .rptr _ _ _ | .iter _ _ => false
  | _ => true
def PV.plains : List PV → Bool
  | [] => true
  | p :: ps => p.plain && PV.plains ps
end

mutual
def RepF (P : Program) (g : G) (w : World) (l : Loc) : PV → Value → Prop
  | .d x, v => DRep g.stab w x v
  | .own e xs, v => ∃ us, w.ownsRow 0 e (P.cellsOf e) v xs.length us ∧ Flat g.stab w (P.cellsOf e) xs us ∧ ∀ b, v.ownBlock = some b → g.κ b = some l ∧ g.tip b = xs.length * P.cellsOf e
  | .full xs, v => ∃ a, v = .slice a xs.length xs.length ∧ DRep g.stab w (.sl xs) v
  | .nilsl, v => v = .slice none 0 0
  | .eptr x off, v => ∃ b o, v = .pointer (some ⟨b, o + off, none⟩) ∧ (∀ c ∈ x.cells, c.isAgg = false) ∧ ∀ (j : Nat) (c : D), x.cells[j]? = some c → ∃ u, w.cell? ⟨b, o + j, none⟩ = some u ∧ g.stab b (o + j) ∧ DRep g.stab w c u
  | .ptr id off, v => id < g.nb ∧ v = .pointer (some ⟨g.bb id, off, none⟩)
  | .rowh id lo len, v => id < g.nb ∧ ∃ ad cap, v = .slice ad len cap ∧ len ≤ cap ∧ (len ≠ 0 → ad = some ⟨g.bb id, lo, none⟩)
  | .fn f caps, v => PV.plains caps = true ∧ ∃ vs : List Value, v = .func (.func f) #[] vs.toArray ∧ RepFs P g w l caps vs
  | .fnm f caps, v => PV.plains caps = true ∧ ∃ vs : List Value, v = .func (.func f) vs.toArray #[] ∧ RepFs P g w l caps vs
  | .gone, _ => True
  | .und, v => v = undef
  | .dead, _ => True
  | .bnil _, v => v = .pointer none
  | _, _ => False
def RepFs (P : Program) (g : G) (w : World) (l : Loc) : List PV → List Value → Prop
  | [], [] => True
  | p :: ps, v :: vs => RepF P g w l p v ∧ RepFs P g w l ps vs
  | _, _ => False
end


structure Chg (M : Loc → Prop) (g : G) (w : World) (g' : G) (w' : World) : Prop where
  os : w'.os = w.os
  tape : w'.tape = w.tape
  output : w'.output = w.output
  size : w.heap.size ≤ w'.heap.size
  stab : ∀ b i u, w.cell? ⟨b, i, none⟩ = some u → g.stab b i → w'.cell? ⟨b, i, none⟩ = some u ∧ g'.stab b i
  own : ∀ b l, b < w.heap.size → g.κ b = some l → ¬ M l → g'.κ b = some l ∧ g'.tip b = g.tip b ∧ w'.heap[b]? = w.heap[b]?
  free : ∀ b, b < w.heap.size → g.κ b = none → g'.κ b = none ∧ w'.heap[b]? = w.heap[b]?
  nb : g.nb ≤ g'.nb
  bb : ∀ id, id < g.nb → g'.bb id = g.bb id

theorem Chg.refl (M : Loc → Prop) (g : G) (w : World) : Chg M g w g w :=
  ⟨rfl, rfl, rfl, Nat.le_refl _, fun _ _ _ h k => ⟨h, k⟩, fun _ _ _ h _ => ⟨h, rfl, rfl⟩, fun _ _ h => ⟨h, rfl⟩, Nat.le_refl _, fun _ _ => rfl⟩

theorem Chg.trans {M : Loc → Prop} {g g1 g2 : G} {w w1 w2 : World} (h : Chg M g w g1 w1) (k : Chg M g1 w1 g2 w2) : Chg M g w g2 w2 where
  os := k.os.trans h.os
  tape := k.tape.trans h.tape
  output := k.output.trans h.output
  size := Nat.le_trans h.size k.size
  stab := fun b i u hc hs => let ⟨h1, h2⟩ := h.stab b i u hc hs; k.stab b i u h1 h2
  own := fun b l hb hk hM => by
    obtain ⟨h1, h2, h3⟩ := h.own b l hb hk hM
    obtain ⟨k1, k2, k3⟩ := k.own b l (Nat.lt_of_lt_of_le hb h.size) h1 hM
    exact ⟨k1, k2.trans h2, k3.trans h3⟩
  free := fun b hb hk => by
    obtain ⟨h1, h2⟩ := h.free b hb hk
    obtain ⟨k1, k2⟩ := k.free b (Nat.lt_of_lt_of_le hb h.size) h1
    exact ⟨k1, k2.trans h2⟩
  nb := Nat.le_trans h.nb k.nb
  bb := fun id hid => (k.bb id (Nat.lt_of_lt_of_le hid h.nb)).trans (h.bb id hid)

theorem Chg.mono {M M' : Loc → Prop} {g g' : G} {w w' : World} (h : Chg M g w g' w') (hM : ∀ l, M l → M' l) : Chg M' g w g' w' :=
  { h with own := fun b l hb hk hn => h.own b l hb hk fun hm => hn (hM l hm) }

theorem lt_of_heap {w : World} {b : Nat} {o : Obj} (h : w.heap[b]? = some o) : b < w.heap.size := (Array.getElem?_eq_some_iff.1 h).1

theorem ownsRow_same {w w' : World} {base : Nat} {e : TypeId} {size n : Nat} {v : Value} {xs : List Value} (h : w.ownsRow base e size v n xs)
    (hb : ∀ b, v.ownBlock = some b → b < w.heap.size → w'.heap[b]? = w.heap[b]?) : w'.ownsRow base e size v n xs := by
  refine ⟨h.1, ?_⟩
  rcases h.2 with h2 | ⟨b, cap, cur, rfl, h3, h4, h5⟩
  · exact .inl h2
  · exact .inr ⟨b, cap, cur, rfl, h3, (hb b rfl (lt_of_heap h4)).trans h4, h5⟩

mutual
theorem RepF.mono {P : Program} {g g' : G} {w w' : World} {M : Loc → Prop} (hc : Chg M g w g' w') {l : Loc} (hl : ¬ M l) : ∀ {p : PV} {v : Value}, RepF P g w l p v → RepF P g' w' l p v
  | .d x, v, h => by
    simp only [RepF] at h ⊢
    exact h.mono hc.stab
  | .own e xs, v, h => by
    simp only [RepF] at h ⊢
    obtain ⟨us, h1, h2, h3⟩ := h
    have hb : ∀ b, v.ownBlock = some b → b < w.heap.size := by
      intro b hb
      rcases h1.2 with ⟨rfl, _⟩ | ⟨b', cap, cur, rfl, _, h4, _⟩
      · simp [Value.ownBlock] at hb
      · simp only [Value.ownBlock, Option.some.injEq] at hb
        subst hb
        exact lt_of_heap h4
    refine ⟨us, ownsRow_same h1 fun b hv hlt => (hc.own b l hlt (h3 b hv).1 hl).2.2, h2.mono hc.stab, fun b hv => ?_⟩
    obtain ⟨k1, k2, _⟩ := hc.own b l (hb b hv) (h3 b hv).1 hl
    exact ⟨k1, k2.trans (h3 b hv).2⟩
  | .full xs, v, h => by
    simp only [RepF] at h ⊢
    obtain ⟨a, h1, h2⟩ := h
    exact ⟨a, h1, h2.mono hc.stab⟩
  | .nilsl, v, h => by
    simp only [RepF] at h ⊢
    exact h
  | .eptr x off, v, h => by
    simp only [RepF] at h ⊢
    obtain ⟨b, o, h1, h2, h3⟩ := h
    refine ⟨b, o, h1, h2, fun j c hj => ?_⟩
    obtain ⟨u, h4, h5, h6⟩ := h3 j c hj
    obtain ⟨k1, k2⟩ := hc.stab _ _ _ h4 h5
    exact ⟨u, k1, k2, h6.mono hc.stab⟩
  | .ptr id off, v, h => by
    simp only [RepF] at h ⊢
    exact ⟨Nat.lt_of_lt_of_le h.1 hc.nb, by rw [hc.bb id h.1]; exact h.2⟩
  | .fn f caps, v, h => by
    simp only [RepF] at h ⊢
    obtain ⟨h0, vs, h1, h2⟩ := h
    exact ⟨h0, vs, h1, RepFs.mono hc hl h2⟩
  | .fnm f caps, v, h => by
    simp only [RepF] at h ⊢
    obtain ⟨h0, vs, h1, h2⟩ := h
    exact ⟨h0, vs, h1, RepFs.mono hc hl h2⟩
  | .gone, v, h => by simp only [RepF]
  | .und, v, h => by simp only [RepF] at h ⊢; exact h
  | .dead, v, h => by simp only [RepF]
  | .bnil _, v, h => by simp only [RepF] at h ⊢; exact h
  | .ibox _, v, h => by simp only [RepF] at h
  | .ref _ _, v, h => by simp only [RepF] at h
  | .rowh id lo len, v, h => by
    simp only [RepF] at h ⊢
    exact ⟨Nat.lt_of_lt_of_le h.1 hc.nb, by rw [hc.bb id h.1]; exact h.2⟩
  | .rptr _ _ _, v, h => by simp only [RepF] at h
  | .iter _ _, v, h => by simp only [RepF] at h
  | .tup _, v, h => by simp only [RepF] at h
theorem RepFs.mono {P : Program} {g g' : G} {w w' : World} {M : Loc → Prop} (hc : Chg M g w g' w') {l : Loc} (hl : ¬ M l) : ∀ {ps : List PV} {vs : List Value}, RepFs P g w l ps vs → RepFs P g' w' l ps vs
  | [], [], _ => by simp only [RepFs]
  | p :: ps, v :: vs, h => by
    simp only [RepFs] at h ⊢
    exact ⟨RepF.mono hc hl h.1, RepFs.mono hc hl h.2⟩
  | [], _ :: _, h => by simp only [RepFs] at h
  | _ :: _, [], h => by simp only [RepFs] at h
end

mutual
theorem RepF.move {P : Program} {g g' : G} {w : World} {l l' : Loc} (hs : ∀ b i, g.stab b i → g'.stab b i) (hn : g.nb ≤ g'.nb) (hb : ∀ id, id < g.nb → g'.bb id = g.bb id) :
    ∀ {p : PV} {v : Value}, p.plain = true → RepF P g w l p v → RepF P g' w l' p v
  | .d x, v, _, h => by
    simp only [RepF] at h ⊢
    exact h.mono fun b i u hc hs' => ⟨hc, hs b i hs'⟩
  | .own e xs, v, hp, h => by simp [PV.plain] at hp
  | .full xs, v, _, h => by
    simp only [RepF] at h ⊢
    obtain ⟨a, h1, h2⟩ := h
    exact ⟨a, h1, h2.mono fun b i u hc hs' => ⟨hc, hs b i hs'⟩⟩
  | .nilsl, v, _, h => by
    simp only [RepF] at h ⊢
    exact h
  | .eptr x off, v, _, h => by
    simp only [RepF] at h ⊢
    obtain ⟨b, o, h1, h2, h3⟩ := h
    refine ⟨b, o, h1, h2, fun j c hj => ?_⟩
    obtain ⟨u, h4, h5, h6⟩ := h3 j c hj
    exact ⟨u, h4, hs _ _ h5, h6.mono fun b i u hc hs' => ⟨hc, hs b i hs'⟩⟩
  | .ptr id off, v, _, h => by
    simp only [RepF] at h ⊢
    exact ⟨Nat.lt_of_lt_of_le h.1 hn, by rw [hb id h.1]; exact h.2⟩
  | .fn f caps, v, hp, h => by
    simp only [RepF] at h ⊢
    obtain ⟨h0, vs, h1, h2⟩ := h
    exact ⟨h0, vs, h1, RepFs.move hs hn hb h0 h2⟩
  | .fnm f caps, v, hp, h => by
    simp only [RepF] at h ⊢
    obtain ⟨h0, vs, h1, h2⟩ := h
    exact ⟨h0, vs, h1, RepFs.move hs hn hb h0 h2⟩
  | .gone, v, _, h => by simp only [RepF]
  | .und, v, _, h => by simp only [RepF] at h ⊢; exact h
  | .dead, v, _, h => by simp only [RepF]
  | .bnil _, v, _, h => by simp only [RepF] at h ⊢; exact h
  | .ibox _, v, _, h => by simp only [RepF] at h
  | .ref _ _, v, _, h => by simp only [RepF] at h
  | .rowh id lo len, v, _, h => by
    simp only [RepF] at h ⊢
    exact ⟨Nat.lt_of_lt_of_le h.1 hn, by rw [hb id h.1]; exact h.2⟩
  | .rptr _ _ _, v, _, h => by simp only [RepF] at h
  | .iter _ _, v, _, h => by simp only [RepF] at h
  | .tup _, v, _, h => by simp only [RepF] at h
theorem RepFs.move {P : Program} {g g' : G} {w : World} {l l' : Loc} (hs : ∀ b i, g.stab b i → g'.stab b i) (hn : g.nb ≤ g'.nb) (hb : ∀ id, id < g.nb → g'.bb id = g.bb id) :
    ∀ {ps : List PV} {vs : List Value}, PV.plains ps = true → RepFs P g w l ps vs → RepFs P g' w l' ps vs
  | [], [], _, _ => by simp only [RepFs]
  | p :: ps, v :: vs, hp, h => by
    simp only [RepFs] at h ⊢
    simp only [PV.plains, Bool.and_eq_true] at hp
    exact ⟨RepF.move hs hn hb hp.1 h.1, RepFs.move hs hn hb hp.2 h.2⟩
  | [], _ :: _, _, h => by simp only [RepFs] at h
  | _ :: _, [], _, h => by simp only [RepFs] at h
end

theorem DRep_of_own {P : Program} {g : G} {w : World} {l : Loc} {e : Nat} {xs : List D} {v : Value} (h : RepF P g w l (.own e xs) v) : DRep g.stab w (.sl xs) v := by
  simp only [RepF] at h
  obtain ⟨us, h1, h2, h3⟩ := h
  rcases h1.2 with ⟨rfl, h0⟩ | ⟨b, cap, cur, rfl, _, h4, h5, _, h7, h8⟩
  · obtain rfl : xs = [] := List.eq_nil_of_length_eq_zero h0
    exact .sl0 none 0
  · obtain ⟨k1, k2⟩ := h3 b rfl
    have hval : ∀ (i : Nat) (x : D) (j : Nat) (c : D), xs[i]? = some x → x.cells[j]? = some c → ∃ u, us[i * P.cellsOf e + j]? = some u ∧ w.cell? ⟨b, 0 + i * P.cellsOf e + j, none⟩ = some u ∧ g.stab b (0 + i * P.cellsOf e + j) ∧ DRep g.stab w c u := by
      intro i x j c hi hj
      obtain ⟨u, h9, h10⟩ := h2.rep i x j c hi hj
      refine ⟨u, h9, ?_, ?_, h10⟩
      · have : cur.toList[i * P.cellsOf e + j]? = some u := by
          rw [← h8, List.getElem?_take] at h9
          split at h9
          · exact h9
          · simp at h9
        simp only [World.cell?, h4, Nat.zero_add]
        simpa using this
      · refine .inr ?_
        have := (List.getElem?_eq_some_iff.1 h9).1
        rw [k2]
        have hl := h2.len
        omega
    refine .sl xs b 0 (P.cellsOf e) cap (fun i j => us.getD (i * P.cellsOf e + j) undef) h5 h2.wid h2.one ?_ ?_
    · intro i x j c hi hj
      obtain ⟨u, h9, h10, h11, _⟩ := hval i x j c hi hj
      simp only [List.getD, h9, Option.getD_some]
      exact ⟨h10, h11⟩
    · intro i x j c hi hj
      obtain ⟨u, h9, _, _, h12⟩ := hval i x j c hi hj
      simp only [List.getD, h9, Option.getD_some]
      exact h12

theorem RepF.toD {P : Program} {g : G} {w : World} {l : Loc} {p : PV} {v : Value} {x : D} (h : RepF P g w l p v) (hx : p.toD = some x) : DRep g.stab w x v := by
  cases p with
  | d y =>
    simp only [PV.toD, Option.some.injEq] at hx
    subst hx
    simpa only [RepF] using h
  | own e xs =>
    simp only [PV.toD, Option.some.injEq] at hx
    subst hx
    exact DRep_of_own h
  | full xs =>
    simp only [PV.toD, Option.some.injEq] at hx
    subst hx
    simp only [RepF] at h
    obtain ⟨_, _, h2⟩ := h
    exact h2
  | nilsl =>
    simp only [PV.toD, Option.some.injEq] at hx
    subst hx
    simp only [RepF] at h
    subst h
    exact .sl0 none 0
  | bnil u =>
    simp only [PV.toD, Option.some.injEq] at hx
    subst hx
    simp only [RepF] at h
    subst h
    exact .nilp
  | _ => simp [PV.toD] at hx

end Go.Pe

namespace Go.Pe

def RepS (P : Program) (g : G) (w : World) (ts : List PV) (va : Nat → Value) (t : Nat) (p : PV) (v : Value) : Prop :=
  match p with
  | .ibox cs => ∃ b c e, v = .pointer (some ⟨b, 0, none⟩) ∧ g.κ b = some (.tm t 0) ∧ g.tip b = 0 ∧ w.heap[b]? = some (.cells c e (0, 0)) ∧ cs.length ≤ c.size ∧
      ∀ (j : Nat) (p : PV), cs[j]? = some p → ∃ u, c[j]? = some u ∧ u.oneCell' = true ∧ RepF P g w (.tm t (j + 1)) p u
  | .iter s pos => ∃ b, v = .pointer (some ⟨b, 0, none⟩) ∧ g.κ b = some (.tm t 0) ∧ g.tip b = 0 ∧ w.heap[b]? = some (.stringIter s pos)
  | .ref t' off => ∃ b cs, v = .pointer (some ⟨b, off, none⟩) ∧ va t' = .pointer (some ⟨b, 0, none⟩) ∧ ts[t']? = some (.ibox cs)
  | .tup ps => ∃ us : List Value, v = .tuple us.toArray ∧ us.length = ps.length ∧ ∀ (j : Nat) (p : PV) (u : Value), ps[j]? = some p → us[j]? = some u → RepF P g w (.tm t (j + 1)) p u
  | p => RepF P g w (.tm t 0) p v

def CellsRep (P : Program) (g : G) (w : World) (l : Nat → Loc) (c : Array Value) (cs : List PV) : Prop :=
  cs.length ≤ c.size ∧ ∀ (j : Nat) (p : PV), cs[j]? = some p → ∃ u, c[j]? = some u ∧ u.oneCell' = true ∧ RepF P g w (l j) p u

def FrzOk (c : Array Value) (z : Nat × Nat) : Prop := z.2 = 0 ∨ c.size ≤ z.1
def EntRep (P : Program) (g : G) (w : World) (id : Nat) : Ent → Prop
  | .box cs => ∃ c e z, FrzOk c z ∧ g.κ (g.bb id) = some (.bx id) ∧ g.tip (g.bb id) = 0 ∧ w.heap[g.bb id]? = some (.cells c e z) ∧ CellsRep P g w (fun j => .cell id j) c cs
  | .row _ _ => False
  | .gone => True

def LiesAll (P : Program) (b : Nat) (w : World) (cs : List PV) : Prop :=
  ∀ j u, cs[j]? = some (.bnil u) → ∃ e n, w.shape? b = some (e, n) ∧ liesAt P P.depth e (n / P.cellsOf e) j u 1 = true
theorem LiesAll.of {P : Program} {b : Nat} {w w' : World} {cs cs' : List PV} (h : LiesAll P b w cs) (hs : ∀ e n, w.shape? b = some (e, n) → w'.shape? b = some (e, n)) (hc : ∀ (j u : Nat), cs'[j]? = some (PV.bnil u) → cs[j]? = some (PV.bnil u)) : LiesAll P b w' cs' :=
  fun j u hj => let ⟨e, n, h1, h2⟩ := h j u (hc j u hj); ⟨e, n, hs e n h1, h2⟩
def PV.isBn : PV → Bool
  | .bnil _ => true
  | _ => false
theorem LiesAll.none {P : Program} {b : Nat} {w : World} {cs : List PV} (h : ∀ p ∈ cs, p.isBn = false) : LiesAll P b w cs :=
  fun j u hj => by have := h _ (List.mem_of_getElem? hj); simp [PV.isBn] at this
theorem shape_of_block {w w' : World} {b : Nat} (h : w'.heap[b]? = w.heap[b]?) {sh : TypeId × Nat} (hs : w.shape? b = some sh) : w'.shape? b = some sh := by
  simp only [World.shape?] at hs ⊢
  rw [h]
  exact hs

structure HeapInv (P : Program) (g : G) (w : World) (hp : List Ent) : Prop where
  nb : g.nb = hp.length
  ent : ∀ id e, hp[id]? = some e → EntRep P g w id e
  lies : ∀ id cs, hp[id]? = some (.box cs) → LiesAll P (g.bb id) w cs

theorem lies_set {P : Program} {g g' : G} {w w' : World} {hp : List Ent} {id : Nat} {cs cs' : List PV} (hl : ∀ id cs, hp[id]? = some (.box cs) → LiesAll P (g.bb id) w cs) (ht : hp[id]? = some (.box cs))
    (hc : ∀ (j u : Nat), cs'[j]? = some (PV.bnil u) → cs[j]? = some (PV.bnil u)) (hb : ∀ i, i < hp.length → g'.bb i = g.bb i)
    (hs : ∀ i, i < hp.length → ∀ e n, w.shape? (g.bb i) = some (e, n) → w'.shape? (g.bb i) = some (e, n)) :
    ∀ i cs2, (hp.set id (.box cs'))[i]? = some (.box cs2) → LiesAll P (g'.bb i) w' cs2 := by
  intro i cs2 hi
  have hlt : i < hp.length := by
    have := (List.getElem?_eq_some_iff.1 hi).1
    simpa using this
  rw [hb i hlt]
  by_cases e : i = id
  · subst e
    rw [List.getElem?_set_self hlt] at hi
    simp only [Option.some.injEq, Ent.box.injEq] at hi
    subst hi
    exact LiesAll.of (hl i cs ht) (hs i hlt) hc
  · rw [List.getElem?_set_ne (Ne.symm e)] at hi
    exact LiesAll.of (hl i cs2 hi) (hs i hlt) (fun _ _ h => h)
theorem lies_gone {P : Program} {g g' : G} {w w' : World} {hp : List Ent} {id : Nat} (hl : ∀ id cs, hp[id]? = some (.box cs) → LiesAll P (g.bb id) w cs) (hb : ∀ i, i < hp.length → g'.bb i = g.bb i)
    (hs : ∀ i, i < hp.length → ∀ e n, w.shape? (g.bb i) = some (e, n) → w'.shape? (g.bb i) = some (e, n)) :
    ∀ i cs2, (hp.set id .gone)[i]? = some (.box cs2) → LiesAll P (g'.bb i) w' cs2 := by
  intro i cs2 hi
  have hlt : i < hp.length := by
    have := (List.getElem?_eq_some_iff.1 hi).1
    simpa using this
  rw [hb i hlt]
  by_cases e : i = id
  · subst e
    rw [List.getElem?_set_self hlt] at hi
    simp at hi
  · rw [List.getElem?_set_ne (Ne.symm e)] at hi
    exact LiesAll.of (hl i cs2 hi) (hs i hlt) (fun _ _ h => h)

def _root_.Go.Act.va (a : Act) (t : Nat) : Value := a.tmps.getD t undef

structure Inv (P : Program) (g : G) (w : World) (a : Act) (s : St) : Prop where
  size : a.tmps.size = s.tm.length
  slot : ∀ t p, s.tm[t]? = some p → RepS P g w s.tm a.va t p (a.va t)
  heap : HeapInv P g w s.hp

theorem RepS.mono {P : Program} {g g' : G} {w w' : World} {M : Loc → Prop} (hc : Chg M g w g' w') {ts ts' : List PV} {va va' : Nat → Value} {t : Nat} (hM : ∀ j, ¬ M (.tm t j))
    (hib : ∀ t' cs, ts[t']? = some (.ibox cs) → (∃ cs', ts'[t']? = some (.ibox cs')) ∧ va' t' = va t')
    {p : PV} {v : Value} (h : RepS P g w ts va t p v) : RepS P g' w' ts' va' t p v := by
  cases p with
  | ibox cs =>
    obtain ⟨b, c, e, h1, h2, h3, h4, h5, h6⟩ := h
    obtain ⟨k1, k2, k3⟩ := hc.own b _ (lt_of_heap h4) h2 (hM 0)
    exact ⟨b, c, e, h1, k1, k2.trans h3, k3.trans h4, h5, fun j p hj => let ⟨u, h7, h8, h9⟩ := h6 j p hj; ⟨u, h7, h8, h9.mono hc (hM _)⟩⟩
  | iter s pos =>
    obtain ⟨b, h1, h2, h3, h4⟩ := h
    obtain ⟨k1, k2, k3⟩ := hc.own b _ (lt_of_heap h4) h2 (hM 0)
    exact ⟨b, h1, k1, k2.trans h3, k3.trans h4⟩
  | ref t' off =>
    obtain ⟨b, cs, h1, h2, h3⟩ := h
    obtain ⟨⟨cs', h4⟩, h5⟩ := hib t' cs h3
    exact ⟨b, cs', h1, h5.trans h2, h4⟩
  | tup ps =>
    obtain ⟨us, h1, h2, h3⟩ := h
    exact ⟨us, h1, h2, fun j p u hj hu => (h3 j p u hj hu).mono hc (hM _)⟩
  | _ => exact RepF.mono hc (hM 0) h

theorem EntRep.mono {P : Program} {g g' : G} {w w' : World} {M : Loc → Prop} (hc : Chg M g w g' w') {id : Nat} (hid : id < g.nb) (hM : ¬ M (.bx id) ∧ ∀ j, ¬ M (.cell id j)) {e : Ent}
    (h : EntRep P g w id e) : EntRep P g' w' id e := by
  cases e with
  | box cs =>
    obtain ⟨c, e, z, hz, h1, h2, h3, h4, h5⟩ := h
    obtain ⟨k1, k2, k3⟩ := hc.own _ _ (lt_of_heap h3) h1 hM.1
    have hb := hc.bb id hid
    exact ⟨c, e, z, hz, by rw [hb]; exact k1, by rw [hb]; exact k2.trans h2, by rw [hb]; exact k3.trans h3, h4, fun j p hj => let ⟨u, h7, h8, h9⟩ := h5 j p hj; ⟨u, h7, h8, h9.mono hc (hM.2 j)⟩⟩
  | row _ _ => exact h
  | gone => trivial

theorem HeapInv.mono {P : Program} {g g' : G} {w w' : World} {M : Loc → Prop} (hc : Chg M g w g' w') (hM : ∀ id, ¬ M (.bx id) ∧ ∀ j, ¬ M (.cell id j)) (hn : g'.nb = g.nb) {hp : List Ent}
    (h : HeapInv P g w hp) : HeapInv P g' w' hp :=
  ⟨hn.trans h.nb, fun id e he => (h.ent id e he).mono hc (by rw [h.nb]; exact (List.getElem?_eq_some_iff.1 he).1) (hM id), fun id cs he => by
    obtain ⟨c, e, z, hz, h1, _, h3, _⟩ := h.ent id _ he
    have hid : id < g.nb := by rw [h.nb]; exact (List.getElem?_eq_some_iff.1 he).1
    obtain ⟨_, _, k3⟩ := hc.own _ _ (lt_of_heap h3) h1 (hM id).1
    rw [hc.bb id hid]
    exact LiesAll.of (h.lies id cs he) (fun e n hs => shape_of_block k3 hs) (fun _ _ h => h)⟩

theorem RepS.of_plain {P : Program} {g : G} {w : World} {ts : List PV} {va : Nat → Value} {t : Nat} {l : Loc} {p : PV} {v : Value} (hp : p.plain = true) (h : RepF P g w l p v) : RepS P g w ts va t p v := by
  have h' : RepF P g w (.tm t 0) p v := RepF.move (fun _ _ h => h) (Nat.le_refl _) (fun _ _ => rfl) hp h
  cases p <;> first | exact h' | (simp [PV.plain] at hp)

theorem RepS.toF {P : Program} {g : G} {w : World} {ts : List PV} {va : Nat → Value} {t : Nat} {p : PV} {v : Value} (hp : p.toD.isSome = true) (h : RepS P g w ts va t p v) : RepF P g w (.tm t 0) p v := by
  cases p <;> first | exact h | (simp [PV.toD] at hp)

theorem RepS.toD {P : Program} {g : G} {w : World} {ts : List PV} {va : Nat → Value} {t : Nat} {p : PV} {v : Value} {x : D} (h : RepS P g w ts va t p v) (hx : p.toD = some x) : DRep g.stab w x v :=
  (RepS.toF (by rw [hx]; rfl) h).toD hx

theorem RepF.cp {P : Program} {g : G} {w : World} {l : Loc} {p q : PV} {v : Value} (h : RepF P g w l p v) (hq : p.cp = some q) : q.plain = true ∧ RepF P g w l q v := by
  cases p with
  | own e xs =>
    simp only [PV.cp, Option.some.injEq] at hq
    subst hq
    exact ⟨rfl, by simp only [RepF]; exact DRep_of_own h⟩
  | fn f caps =>
    simp only [PV.cp, Option.some.injEq] at hq
    subst hq
    refine ⟨?_, h⟩
    simp only [RepF] at h
    simpa [PV.plain] using h.1
  | fnm f caps =>
    simp only [PV.cp, Option.some.injEq] at hq
    subst hq
    refine ⟨?_, h⟩
    simp only [RepF] at h
    simpa [PV.plain] using h.1
  | rptr _ _ _ => simp only [RepF] at h
  | bnil u =>
    simp only [PV.cp, Option.some.injEq] at hq
    subst hq
    simp only [RepF] at h
    subst h
    exact ⟨rfl, by simp only [RepF]; exact .nilp⟩
  | _ => first | (simp only [PV.cp, Option.some.injEq] at hq; subst hq; exact ⟨rfl, h⟩) | (simp [PV.cp] at hq)

theorem RepS.cp {P : Program} {g : G} {w : World} {ts : List PV} {va : Nat → Value} {t : Nat} {p q : PV} {v : Value} (h : RepS P g w ts va t p v) (hq : p.cp = some q) : q.plain = true ∧ RepF P g w (.tm t 0) q v := by
  cases p <;> first | exact RepF.cp (l := .tm t 0) h hq | (simp [PV.cp] at hq)

theorem va_put_same {a : Act} {d : Nat} {v : Value} (h : d < a.tmps.size) : (a.put (some d) v).va d = v := by
  simp [Act.va, Act.put, Array.getD_eq_getD_getElem?, h]

theorem va_put_other {a : Act} {d t : Nat} {v : Value} (h : t ≠ d) : (a.put (some d) v).va t = a.va t := by
  simp [Act.va, Act.put, Array.getD_eq_getD_getElem?, Array.getElem?_setIfInBounds, Ne.symm h]

theorem getD_some {l : List PV} {t : Nat} {p : PV} (h : l[t]? = some p) : l.getD t .dead = p := by simp [List.getD, h]

theorem put_some {s s' : St} {d : Nat} {v : PV} (h : s.put (some d) v = some s') : s' = { s with tm := s.tm.set d v } ∧ ∀ cs, s.tm[d]? ≠ some (.ibox cs) := by
  simp only [St.put] at h
  split at h
  · simp at h
  · rename_i hne
    simp only [Option.some.injEq] at h
    exact ⟨h.symm, fun cs hcs => hne cs (getD_some hcs)⟩

theorem Inv.put_chg {P : Program} {g g' : G} {w w' : World} {a : Act} {s s' : St} {M : Loc → Prop} {d : Nat} {v : PV} {u : Value} (h : Inv P g w a s) (hc : Chg M g w g' w') (hM : ∀ t j, t ≠ d → ¬ M (.tm t j))
    (hH : HeapInv P g' w' s.hp) (hp : s.put (some d) v = some s')
    (hv : ∀ ts va, RepS P g' w' ts va d v u) : Inv P g' w' (a.put (some d) u) s' := by
  obtain ⟨rfl, hne⟩ := put_some hp
  refine ⟨by simp [Act.put, h.size], ?_, hH⟩
  intro t p ht
  by_cases e : t = d
  · subst e
    have hl : t < s.tm.length := by
      have := (List.getElem?_eq_some_iff.1 ht).1
      simpa using this
    simp only [List.getElem?_set_self hl, Option.some.injEq] at ht
    subst ht
    rw [va_put_same (by rw [h.size]; exact hl)]
    exact hv _ _
  · simp only [List.getElem?_set_ne (Ne.symm e)] at ht
    rw [va_put_other e]
    refine (h.slot t p ht).mono hc (fun j => hM t j e) ?_
    intro t' cs ht'
    have e' : t' ≠ d := fun e' => hne cs (e' ▸ ht')
    exact ⟨⟨cs, by simp only [List.getElem?_set_ne (Ne.symm e')]; exact ht'⟩, va_put_other e'⟩

theorem Inv.put {P : Program} {g : G} {w : World} {a : Act} {s s' : St} {dst : Option Nat} {v : PV} {u : Value} {l : Loc} (h : Inv P g w a s) (hp : s.put dst v = some s') (hpl : v.plain = true)
    (hv : RepF P g w l v u) : Inv P g w (a.put dst u) s' := by
  cases dst with
  | none =>
    simp only [St.put, Option.some.injEq] at hp
    subst hp
    exact h
  | some d => exact h.put_chg (Chg.refl (fun _ => False) g w) (fun _ _ _ h => h) h.heap hp fun _ _ => RepS.of_plain hpl hv

end Go.Pe

namespace Go.Pe

def constD : Value → D → Bool
  | .bool b, .bool b' => b == b'
  | .int k n, .int k' n' => k == k' && n == n'
  | .string s, .str s' => s.data.toList == s'.data.toList
  | .pointer none, .nilp => true
  | .nilFunc, .nilf => true
  | .nilIface, .nili => true
  | .slice none 0 0, .sl [] => true
  | .slice none 0 0, .nils => true
  | _, _ => false

def constDs : List Value → List D → Bool
  | [], [] => true
  | v :: vs, x :: xs => constD v x && constDs vs xs
  | _, _ => false

def constOk : Value → PV → Bool
  | .slice none 0 0, .nilsl => true
  | .agg cs, .d (.agg ds) => constDs cs.toList ds
  | v, .d x => constD v x
  | _, _ => false

def xOk : Operand → X → Bool
  | .tmp n, .t m => n == m
  | .const v, .c p => constOk v p
  | .func f, .f g => f == g
  | _, _ => false

theorem constD_ok {v : Value} {x : D} (h : constD v x = true) (S : Nat → Nat → Prop) (w : World) : DRep S w x v ∧ x.isAgg = false := by
  unfold constD at h
  split at h
  · simp at h; subst h; exact ⟨.bool _, rfl⟩
  · simp at h; obtain ⟨rfl, rfl⟩ := h; exact ⟨.int _ _, rfl⟩
  · rename_i s s'
    have : s = s' := by
      obtain ⟨⟨a⟩⟩ := s
      obtain ⟨⟨b⟩⟩ := s'
      simp at h
      rw [h]
    subst this; exact ⟨.str _, rfl⟩
  · exact ⟨.nilp, rfl⟩
  · exact ⟨.nilf, rfl⟩
  · exact ⟨.nili, rfl⟩
  · exact ⟨.sl0 _ _, rfl⟩
  · exact ⟨.nils, rfl⟩
  · simp at h

theorem constDs_ok : ∀ {vs : List Value} {xs : List D}, constDs vs xs = true → ∀ (S : Nat → Nat → Prop) (w : World),
    vs.length = xs.length ∧ (∀ c ∈ xs, c.isAgg = false) ∧ ∀ (j : Nat) (c : D) (v : Value), xs[j]? = some c → vs[j]? = some v → DRep S w c v
  | [], [], _, S, w => ⟨rfl, by simp, by simp⟩
  | v :: vs, x :: xs, h, S, w => by
    simp only [constDs, Bool.and_eq_true] at h
    obtain ⟨h1, h2⟩ := h
    obtain ⟨k1, k2⟩ := constD_ok h1 S w
    obtain ⟨i1, i2, i3⟩ := constDs_ok h2 S w
    refine ⟨by simp [i1], ?_, ?_⟩
    · intro c hc
      rcases List.mem_cons.1 hc with rfl | hc
      · exact k2
      · exact i2 c hc
    · intro j c u hj hu
      cases j with
      | zero => simp at hj hu; subst hj; subst hu; exact k1
      | succ j => exact i3 j c u (by simpa using hj) (by simpa using hu)
  | [], _ :: _, h, _, _ => by simp [constDs] at h
  | _ :: _, [], h, _, _ => by simp [constDs] at h

theorem constOk_ok {v : Value} {p : PV} (h : constOk v p = true) (P : Program) (g : G) (w : World) (l : Loc) : p.plain = true ∧ RepF P g w l p v := by
  unfold constOk at h
  split at h
  · exact ⟨rfl, by simp only [RepF]⟩
  · rename_i cs ds
    obtain ⟨h1, h2, h3⟩ := constDs_ok h g.stab w
    refine ⟨rfl, ?_⟩
    simp only [RepF]
    exact .agg ds cs (by simpa using h1) h2 (fun j c v hj hv => h3 j c v hj (by simpa using hv))
  · exact ⟨rfl, by simp only [RepF]; exact (constD_ok h g.stab w).1⟩
  · simp at h

section
variable {P : Program} {g : G} {w : World} {a : Act} {s : St}

theorem Inv.slot' (h : Inv P g w a s) {t : Nat} {p : PV} (hp : s.tm.getD t .dead = p) (hne : p ≠ .dead) : s.tm[t]? = some p ∧ RepS P g w s.tm a.va t p (a.va t) := by
  cases hq : s.tm[t]? with
  | none => simp [List.getD, hq] at hp; exact absurd hp.symm hne
  | some q =>
    have : q = p := by simpa [List.getD, hq] using hp
    subst this
    exact ⟨rfl, h.slot t q hq⟩

theorem x_toD (h : Inv P g w a s) {x : Operand} {y : X} (hx : xOk x y = true) {d : D} (hd : (s.x y).toD = some d) : DRep g.stab w d (a.eval x) := by
  unfold xOk at hx
  split at hx
  · rename_i n m
    simp at hx
    subst hx
    have hne : s.tm.getD n .dead ≠ .dead := by
      intro e
      simp only [St.x] at hd
      rw [e] at hd
      simp [PV.toD] at hd
    obtain ⟨_, h2⟩ := h.slot' (t := n) rfl hne
    exact h2.toD hd
  · rename_i v p
    exact (constOk_ok hx P g w (.ret 0)).2.toD hd
  · simp [St.x, PV.toD] at hd
  · simp at hx

theorem x_cp (h : Inv P g w a s) {x : Operand} {y : X} (hx : xOk x y = true) {q : PV} (hq : (s.x y).cp = some q) : q.plain = true ∧ ∀ l, RepF P g w l q (a.eval x) := by
  have fin : ∀ l0, q.plain = true ∧ RepF P g w l0 q (a.eval x) → q.plain = true ∧ ∀ l, RepF P g w l q (a.eval x) := fun l0 k =>
    ⟨k.1, fun l => RepF.move (fun _ _ h => h) (Nat.le_refl _) (fun _ _ => rfl) k.1 k.2⟩
  unfold xOk at hx
  split at hx
  · rename_i n m
    simp at hx
    subst hx
    have hne : s.tm.getD n .dead ≠ .dead := by
      intro e
      simp only [St.x] at hq
      rw [e] at hq
      simp [PV.cp] at hq
    obtain ⟨_, h2⟩ := h.slot' (t := n) rfl hne
    exact fin (.tm n 0) (h2.cp hq)
  · rename_i v p
    exact fin (.ret 0) ((constOk_ok hx P g w (.ret 0)).2.cp hq)
  · rename_i f f'
    simp at hx
    subst hx
    simp only [St.x, PV.cp, Option.some.injEq] at hq
    subst hq
    exact fin (.ret 0) ⟨rfl, by simp only [RepF, Act.eval]; exact ⟨rfl, [], rfl, by simp only [RepFs]⟩⟩
  · simp at hx
end

def Mine (l : Loc) : Prop := ∀ l', l ≠ .oth l'

def OpRes (P : Program) (g : G) (w : World) (a : Act) (o : Oper) (s' : St) : Prop :=
  ∃ n v g' w', (execOp a.eval o).run P w = .ok n w' ∧ (n = .value v ∨ n = .skip ∧ v = undef) ∧ Inv P g' w' (a.put o.dst v) s' ∧ Chg Mine g w g' w'

theorem OpRes.value {P : Program} {g : G} {w : World} {a : Act} {s s' : St} {o : Oper} {v : PV} {u : Value} {l : Loc} (h : Inv P g w a s) (hr : (execOp a.eval o).run P w = .ok (.value u) w)
    (hp : s.put o.dst v = some s') (hpl : v.plain = true) (hv : RepF P g w l v u) : OpRes P g w a o s' :=
  ⟨_, u, g, w, hr, .inl rfl, h.put hp hpl hv, Chg.refl _ _ _⟩

end Go.Pe

namespace Go.Pe
section
variable {P : Program} {g : G} {w : World} {a : Act} {s s' : St} {S : Nat → Nat → Prop}

theorem DRep.int_inv {k : IntKind} {n : Int} {v : Value} (h : DRep S w (.int k n) v) : v = .int k n := by cases h; rfl
theorem DRep.bool_inv {b : Bool} {v : Value} (h : DRep S w (.bool b) v) : v = .bool b := by cases h; rfl
theorem DRep.str_inv {b : ByteArray} {v : Value} (h : DRep S w (.str b) v) : v = .string b := by cases h; rfl
theorem DRep.agg_inv {cs : List D} {v : Value} (h : DRep S w (.agg cs) v) : ∃ vs : Array Value, v = .agg vs ∧ vs.size = cs.length ∧ (∀ c ∈ cs, c.isAgg = false) ∧ ∀ (j : Nat) (c : D) (v : Value), cs[j]? = some c → vs[j]? = some v → DRep S w c v := by
  cases h with
  | agg _ vs hl ha h => exact ⟨vs, rfl, hl, ha, h⟩
theorem DRep.sl_inv {xs : List D} {v : Value} (h : DRep S w (.sl xs) v) : ∃ ad cap, v = .slice ad xs.length cap ∧ xs.length ≤ cap := by
  cases h with
  | sl0 ad cap => exact ⟨ad, cap, rfl, Nat.zero_le _⟩
  | sl _ b o sz cap f hc hw ha hm h => exact ⟨_, cap, rfl, hc⟩

theorem DRep.fe_inv {v : Value} (h : DRep S w .fe v) : ∃ ad, v = .slice ad 0 0 := by
  cases h with
  | fe ad => exact ⟨ad, rfl⟩

theorem intD_run {op : BinOp} {k : IntKind} {x y : Int} {d : D} (h : intD op k x y = some d) (h1 : op ≠ .shl) (h2 : op ≠ .shr) (t : TypeId) (w : World) :
    ∃ v, (binOp op t (.int k x) (.int k y)).run P w = .ok v w ∧ (∀ S, DRep S w d v) := by
  cases op <;> simp only [intD, bitsD, Option.some.injEq, reduceCtorEq] at h
  case quo =>
    split at h
    · simp at h
    · rename_i hy
      simp only [Option.some.injEq] at h
      subst h
      exact ⟨_, by simp [binOp, Op.intDiv, hy], fun _ => .int _ _⟩
  case rem =>
    split at h
    · simp at h
    · rename_i hy
      simp only [Option.some.injEq] at h
      subst h
      exact ⟨_, by simp [binOp, Op.intDiv, hy], fun _ => .int _ _⟩
  all_goals
    subst h
    first
    | exact ⟨_, by simp [binOp, Op.intArith, Op.intBits, Op.intCmp], fun _ => .int _ _⟩
    | exact ⟨_, by simp [binOp, Op.intArith, Op.intBits, Op.intCmp], fun _ => .bool _⟩

theorem shiftD_run {op : BinOp} {k k' : IntKind} {x y : Int} {d : D} (ho : op = .shl ∨ op = .shr) (h : shiftD op k x y = some d) (t : TypeId) (w : World) :
    ∃ v, (binOp op t (.int k x) (.int k' y)).run P w = .ok v w ∧ (∀ S, DRep S w d v) := by
  unfold shiftD at h
  split at h
  · simp at h
  · rename_i hy
    rcases ho with rfl | rfl
    · simp only [Option.some.injEq] at h
      subst h
      exact ⟨_, by simp [binOp, Op.shift, hy], fun _ => .int _ _⟩
    · simp only [Option.some.injEq] at h
      subst h
      exact ⟨_, by simp [binOp, Op.shift, hy], fun _ => .int _ _⟩

theorem strD_run {op : BinOp} {x y : ByteArray} {d : D} (h : strD op x y = some d) (t : TypeId) (w : World) :
    ∃ v, (binOp op t (.string x) (.string y)).run P w = .ok v w ∧ (∀ S, DRep S w d v) := by
  cases op <;> simp only [strD, Option.some.injEq, reduceCtorEq] at h
  case add =>
    split at h
    · rename_i hs
      simp only [Option.some.injEq] at h
      subst h
      have hle : ¬ ((x.size + y.size : Nat) : Int) > IntKind.i64.max := by
        simp only [IntKind.max, IntKind.signed, IntKind.bits, if_true]
        omega
      refine ⟨_, ?_, fun _ => .str _⟩
      simp only [binOp, Op.stringOp]
      rw [if_neg hle]
      rfl
    · simp at h
  all_goals
    subst h
    exact ⟨_, by simp [binOp, Op.stringOp], fun _ => .bool _⟩

theorem run_equalIn_bool (d : Nat) {t : TypeId} (ht : P.underlying t = some .bool) (x y : Bool) (w : World) : (Op.equalIn (d + 1) t (.bool x) (.bool y)).run P w = .ok (x == y) w := by
  rw [Op.equalIn]
  simp only [Sem.run_bind, run_underlying ht, Result.andThen_ok, Sem.run_pure]
theorem run_equal_bool {t : TypeId} (ht : P.underlying t = some .bool) (x y : Bool) (w : World) : (Op.equal t (.bool x) (.bool y)).run P w = .ok (x == y) w := run_equalIn_bool 9999 ht x y w

theorem eqGuard_int (op : BinOp) (t : TypeId) (x y : Operand) (k k' : IntKind) (m n : Int) : (eqGuard op t x y (.int k m) (.int k' n)).run P w = .ok () w := by
  unfold eqGuard; cases op <;> rfl
theorem eqGuard_str (op : BinOp) (t : TypeId) (x y : Operand) (m n : ByteArray) : (eqGuard op t x y (.string m) (.string n)).run P w = .ok () w := by
  unfold eqGuard; cases op <;> rfl
theorem eqGuard_bool (op : BinOp) (t : TypeId) (x y : Operand) (m n : Bool) : (eqGuard op t x y (.bool m) (.bool n)).run P w = .ok () w := by
  unfold eqGuard; cases op <;> rfl

theorem op_bin {o : Oper} {op : BinOp} {t yt : TypeId} {x y : Operand} {x' y' : X} (h : Inv P g w a s) (ho : o.op = .binOp op t x y yt) (hx : xOk x x' = true) (hy : xOk y y' = true)
    {d1 d2 d : D} (h1 : (s.x x').toD = some d1) (h2 : (s.x y').toD = some d2) (hb : binD op d1 d2 = some d)
    (hp : s.put o.dst (.d d) = some s') : OpRes P g w a o s' := by
  have r1 := x_toD h hx h1
  have r2 := x_toD h hy h2
  have fin : ∀ v, (eqGuard op t x y (a.eval x) (a.eval y)).run P w = .ok () w → (binOp op t (a.eval x) (a.eval y)).run P w = .ok v w → DRep g.stab w d v → OpRes P g w a o s' := by
    intro v e1 e2 e3
    refine OpRes.value (l := .ret 0) h (u := v) ?_ hp rfl (by simp only [RepF]; exact e3)
    unfold execOp
    simp only [ho, Sem.run_bind, e1, e2, Result.andThen_ok, Sem.run_pure]
  unfold binD at hb
  split at hb
  · rename_i k m k' n
    have e1 := r1.int_inv
    have e2 := r2.int_inv
    split at hb
    · obtain ⟨v, q1, q2⟩ := shiftD_run (P := P) (k' := k') (.inl rfl) hb t w
      exact fin v (by rw [e1, e2]; exact eqGuard_int _ _ _ _ _ _ _ _) (by rw [e1, e2]; exact q1) (q2 _)
    · obtain ⟨v, q1, q2⟩ := shiftD_run (P := P) (k' := k') (.inr rfl) hb t w
      exact fin v (by rw [e1, e2]; exact eqGuard_int _ _ _ _ _ _ _ _) (by rw [e1, e2]; exact q1) (q2 _)
    · rename_i o' n1 n2
      split at hb
      · rename_i hk
        subst hk
        obtain ⟨v, q1, q2⟩ := intD_run (P := P) hb n1 n2 t w
        exact fin v (by rw [e1, e2]; exact eqGuard_int _ _ _ _ _ _ _ _) (by rw [e1, e2]; exact q1) (q2 _)
      · simp at hb
  · have e1 := r1.str_inv
    have e2 := r2.str_inv
    obtain ⟨v, q1, q2⟩ := strD_run (P := P) hb t w
    exact fin v (by rw [e1, e2]; exact eqGuard_str _ _ _ _ _ _) (by rw [e1, e2]; exact q1) (q2 _)
  · simp at hb

theorem op_beq {o : Oper} {neg : Bool} {t yt : TypeId} {x y : Operand} {x' y' : X} (h : Inv P g w a s) (ho : o.op = .binOp (if neg then .neq else .eql) t x y yt) (hx : xOk x x' = true) (hy : xOk y y' = true)
    (ht : P.underlying t = some .bool) {b1 b2 : Bool} (h1 : (s.x x').toD = some (.bool b1)) (h2 : (s.x y').toD = some (.bool b2))
    (hp : s.put o.dst (.d (.bool (if neg then !(b1 == b2) else (b1 == b2)))) = some s') : OpRes P g w a o s' := by
  have e1 := (x_toD h hx h1).bool_inv
  have e2 := (x_toD h hy h2).bool_inv
  refine OpRes.value (l := .ret 0) h (u := .bool (if neg then !(b1 == b2) else (b1 == b2))) ?_ hp rfl (by simp only [RepF]; exact .bool _)
  unfold execOp
  cases neg
  · simp only [ho, e1, e2, Sem.run_bind, eqGuard_bool, Result.andThen_ok, Sem.run_pure, Bool.false_eq_true, if_false]
    simp only [binOp, Sem.run_bind, run_equal_bool ht, Result.andThen_ok, Sem.run_pure]
  · simp only [ho, e1, e2, Sem.run_bind, eqGuard_bool, Result.andThen_ok, Sem.run_pure, if_true]
    simp only [binOp, Sem.run_bind, run_equal_bool ht, Result.andThen_ok, Sem.run_pure]

theorem op_un {o : Oper} {op : UnOp} {t : TypeId} {x : Operand} {x' : X} (h : Inv P g w a s) (ho : o.op = .unOp op t x) (hx : xOk x x' = true) {d d' : D} (h1 : (s.x x').toD = some d) (hu : unD op d = some d')
    (hp : s.put o.dst (.d d') = some s') : OpRes P g w a o s' := by
  have r1 := x_toD h hx h1
  have fin : ∀ v, (Op.unary op (a.eval x)).run P w = .ok v w → DRep g.stab w d' v → OpRes P g w a o s' := by
    intro v e2 e3
    refine OpRes.value (l := .ret 0) h (u := v) ?_ hp rfl (by simp only [RepF]; exact e3)
    unfold execOp
    simp only [ho, Sem.run_bind, e2, Result.andThen_ok, Sem.run_pure]
  unfold unD at hu
  split at hu
  · have e1 := r1.int_inv
    simp only [Option.some.injEq] at hu
    subst hu
    exact fin _ (by rw [e1]; simp [Op.unary, Op.intArith]) (.int _ _)
  · have e1 := r1.bool_inv
    simp only [Option.some.injEq] at hu
    subst hu
    exact fin _ (by rw [e1]; simp [Op.unary]) (.bool _)
  · have e1 := r1.int_inv
    simp only [bitsD, Option.some.injEq] at hu
    subst hu
    exact fin _ (by rw [e1]; simp [Op.unary, Op.intBits]) (.int _ _)
  · simp at hu

theorem op_pick {o : Oper} {c x y : Operand} {c' x' y' : X} (h : Inv P g w a s) (ho : o.op = .pick c x y) (hc : xOk c c' = true) (hx : xOk x x' = true) (hy : xOk y y' = true) {t : Bool} (h1 : (s.x c').toD = some (.bool t))
    {q : PV} (hq : (if t then (s.x x').cp else (s.x y').cp) = some q) (hp : s.put o.dst q = some s') : OpRes P g w a o s' := by
  have e1 := (x_toD h hc h1).bool_inv
  cases t
  · simp only [Bool.false_eq_true, if_false] at hq
    obtain ⟨k1, k2⟩ := x_cp h hy hq
    refine OpRes.value (l := .ret 0) h (u := a.eval y) ?_ hp k1 (k2 _)
    unfold execOp
    simp [ho, e1, asBool]
  · simp only [if_true] at hq
    obtain ⟨k1, k2⟩ := x_cp h hx hq
    refine OpRes.value (l := .ret 0) h (u := a.eval x) ?_ hp k1 (k2 _)
    unfold execOp
    simp [ho, e1, asBool]

theorem op_len {o : Oper} {str : Bool} {x : Operand} {x' : X} {ts : Array TypeId} {t : TypeId} (h : Inv P g w a s) (ho : o.op = .call { callee := .builtin .len, args := #[x], argTypes := ts }) (hts : ts[0]? = some t)
    (ht : if str then P.underlying t = some .string else ∃ e, P.underlying t = some (.slice e)) (hx : xOk x x' = true) {d : D} (hl : lenOp str (s.x x') = some d) (hp : s.put o.dst (.d d) = some s') : OpRes P g w a o s' := by
  have fin : ∀ v, (Builtin.len_ ts o.type #[a.eval x]).run P w = .ok v w → DRep g.stab w d v → OpRes P g w a o s' := by
    intro v e2 e3
    refine OpRes.value (l := .ret 0) h (u := v) ?_ hp rfl (by simp only [RepF]; exact e3)
    unfold execOp
    simp only [ho, resolve, invoke, builtin, Sem.run_bind, Sem.run_pure, Result.andThen_ok, List.map_toArray, List.map_cons, List.map_nil, e2]
  unfold lenOp at hl
  split at hl
  · rename_i b hb
    have e1 := (x_toD h hx hb).str_inv
    simp only [Option.some.injEq] at hl
    subst hl
    simp only [if_true] at ht
    exact fin _ (by rw [e1]; simp [Builtin.len_, hts, run_underlying ht, goInt]) (.int _ _)
  · rename_i xs hb
    obtain ⟨ad, cap, e1, _⟩ := (x_toD h hx hb).sl_inv
    simp only [Option.some.injEq] at hl
    subst hl
    simp only [Bool.false_eq_true, if_false] at ht
    obtain ⟨e, ht⟩ := ht
    exact fin _ (by rw [e1]; simp [Builtin.len_, hts, run_underlying ht, goInt]) (.int _ _)
  · rename_i hb
    obtain ⟨ad, e1⟩ := (x_toD h hx hb).fe_inv
    simp only [Option.some.injEq] at hl
    subst hl
    simp only [Bool.false_eq_true, if_false] at ht
    obtain ⟨e, ht⟩ := ht
    exact fin _ (by rw [e1]; simp [Builtin.len_, hts, run_underlying ht, goInt]) (.int _ _)
  · split at hl
    · rename_i id lo len hv
      obtain ⟨_, k2⟩ := x_cp h hx (q := .rowh id lo len) (by rw [hv]; rfl)
      have k3 := k2 (.ret 0)
      simp only [RepF] at k3
      obtain ⟨_, ad, cap, e1, _⟩ := k3
      simp only [Option.some.injEq] at hl
      subst hl
      simp only [Bool.false_eq_true, if_false] at ht
      obtain ⟨e, ht⟩ := ht
      exact fin _ (by rw [e1]; simp [Builtin.len_, hts, run_underlying ht, goInt]) (.int _ _)
    · simp at hl
  · simp at hl

theorem op_six {o : Oper} {t : TypeId} {x i : Operand} {x' i' : X} (h : Inv P g w a s) (ho : o.op = .index t x i) (ht : P.underlying t = some .string) (hx : xOk x x' = true) (hi : xOk i i' = true)
    {b : ByteArray} {k : IntKind} {n : Int} (h1 : (s.x x').toD = some (.str b)) (h2 : (s.x i').toD = some (.int k n)) {u : UInt8} (hb : 0 ≤ n) (hg : b[n.toNat]? = some u)
    (hp : s.put o.dst (.d (.int .u8 u.toNat)) = some s') : OpRes P g w a o s' := by
  have e1 := (x_toD h hx h1).str_inv
  have e2 := (x_toD h hi h2).int_inv
  refine OpRes.value (l := .ret 0) h (u := .int .u8 u.toNat) ?_ hp rfl (by simp only [RepF]; exact .int _ _)
  unfold execOp
  simp [ho, e1, e2, Instr.index, asIntOf, run_underlying ht, hb, hg]

theorem op_mkf {o : Oper} {f : Nat} {xs : Array Operand} {xs' : List X} (h : Inv P g w a s) (ho : o.op = .makeFunc (.func f) #[] xs) {vs : List PV}
    (hv : PV.plains vs = true ∧ RepFs P g w (.ret 0) vs (xs.toList.map a.eval)) (hp : s.put o.dst (.fn f vs) = some s') : OpRes P g w a o s' := by
  refine OpRes.value (l := .ret 0) h (u := .func (.func f) #[] (xs.map a.eval)) ?_ hp (by simpa [PV.plain] using hv.1) ?_
  · unfold execOp
    simp [ho, Instr.makeFunc]
  · simp only [RepF]
    exact ⟨hv.1, xs.toList.map a.eval, by congr 1; apply Array.ext'; simp, hv.2⟩

theorem op_mkm {o : Oper} {f : Nat} {xs : Array Operand} {xs' : List X} (h : Inv P g w a s) (ho : o.op = .makeFunc (.func f) xs #[]) {vs : List PV}
    (hv : PV.plains vs = true ∧ RepFs P g w (.ret 0) vs (xs.toList.map a.eval)) (hp : s.put o.dst (.fnm f vs) = some s') : OpRes P g w a o s' := by
  refine OpRes.value (l := .ret 0) h (u := .func (.func f) (xs.map a.eval) #[]) ?_ hp (by simpa [PV.plain] using hv.1) ?_
  · unfold execOp
    simp [ho, Instr.makeFunc]
  · simp only [RepF]
    exact ⟨hv.1, xs.toList.map a.eval, by congr 1; apply Array.ext'; simp, hv.2⟩

theorem op_mki {o : Oper} {t : TypeId} {x : Operand} {x' : X} (h : Inv P g w a s) (ho : o.op = .makeInterface t x) (ht : ∃ d, P.underlying t = some d ∧ ∀ ms, d ≠ .interface ms) (hx : xOk x x' = true) {d : D} (h1 : (s.x x').toD = some d)
    (hp : s.put o.dst (.d (.ifc t d)) = some s') : OpRes P g w a o s' := by
  have r1 := x_toD h hx h1
  obtain ⟨td, ht, hn⟩ := ht
  refine OpRes.value (l := .ret 0) h (u := .iface t (a.eval x)) ?_ hp rfl (by simp only [RepF]; exact .ifc _ _ _ r1)
  unfold execOp
  simp only [ho, Instr.makeInterface, Sem.run_bind, run_underlying ht, Result.andThen_ok]
  rfl

def valsOk : List Operand → List X → Bool
  | [], [] => true
  | x :: xs, y :: ys => xOk x y && valsOk xs ys
  | _, _ => false

theorem vals_cp (h : Inv P g w a s) : ∀ {xs : List Operand} {ys : List X}, valsOk xs ys = true → ∀ {vs : List PV}, optAll (ys.map fun x => (s.x x).cp) = some vs → PV.plains vs = true ∧ ∀ l, RepFs P g w l vs (xs.map a.eval)
  | [], [], _, vs, hv => by
    simp only [List.map_nil, optAll, Option.some.injEq] at hv
    subst hv
    exact ⟨rfl, fun l => by simp only [RepFs, List.map_nil]⟩
  | x :: xs, y :: ys, hx, vs, hv => by
    simp only [valsOk, Bool.and_eq_true] at hx
    simp only [List.map_cons] at hv
    cases hq : (s.x y).cp with
    | none => rw [hq] at hv; simp [optAll] at hv
    | some q =>
      rw [hq] at hv
      simp only [optAll, Option.map_eq_some_iff] at hv
      obtain ⟨r, hr, rfl⟩ := hv
      obtain ⟨k1, k2⟩ := x_cp h hx.1 hq
      obtain ⟨i1, i2⟩ := vals_cp h hx.2 hr
      exact ⟨by simp only [PV.plains, k1, i1, Bool.and_self], fun l => by simp only [List.map_cons, RepFs]; exact ⟨k2 l, i2 l⟩⟩
  | [], _ :: _, hx, _, _ => by simp [valsOk] at hx
  | _ :: _, [], hx, _, _ => by simp [valsOk] at hx

theorem minMax_run {mx : Bool} {p q r : D} (h : minMax mx p q = some r) {u v : Value} (hu : DRep S w p u) (hv : DRep S w q v) :
    ∃ x, (if mx then Builtin.max2 u v else Builtin.min2 u v).run P w = .ok x w ∧ DRep S w r x := by
  unfold minMax at h
  split at h
  · split at h
    · rename_i hk
      subst hk
      have e1 := hu.int_inv
      have e2 := hv.int_inv
      subst e1
      subst e2
      simp only [Option.some.injEq] at h
      subst h
      cases mx
      · exact ⟨_, by simp [Builtin.min2], .int _ _⟩
      · exact ⟨_, by simp [Builtin.max2], .int _ _⟩
    · simp at h
  · simp at h

theorem minMaxs_run (h : Inv P g w a s) {mx : Bool} : ∀ {xs : List Operand} {ys : List X}, valsOk xs ys = true → ∀ {p r : D}, minMaxs s mx p ys = some r → ∀ {u : Value}, DRep g.stab w p u →
    ∃ x, ((xs.map a.eval).foldlM (if mx then Builtin.max2 else Builtin.min2) u).run P w = .ok x w ∧ DRep g.stab w r x
  | [], [], _, p, r, hr, u, hu => by
    simp only [minMaxs, Option.some.injEq] at hr
    subst hr
    exact ⟨u, by simp, hu⟩
  | x :: xs, y :: ys, hx, p, r, hr, u, hu => by
    simp only [valsOk, Bool.and_eq_true] at hx
    simp only [minMaxs] at hr
    split at hr
    · rename_i b hb
      split at hr
      · rename_i c hc
        obtain ⟨x1, q1, q2⟩ := minMax_run (P := P) hc hu (x_toD h hx.1 hb)
        obtain ⟨x2, q3, q4⟩ := minMaxs_run h hx.2 hr q2
        refine ⟨x2, ?_, q4⟩
        have q1' : ((if mx then Builtin.max2 else Builtin.min2) u (a.eval x)).run P w = .ok x1 w := by cases mx <;> exact q1
        simp only [List.map_cons, List.foldlM_cons, Sem.run_bind, q1', Result.andThen_ok, q3]
      · simp at hr
    · simp at hr
  | [], _ :: _, hx, _, _, _, _, _ => by simp [valsOk] at hx
  | _ :: _, [], hx, _, _, _, _, _ => by simp [valsOk] at hx

theorem op_minmax {o : Oper} {mx : Bool} {xs : Array Operand} {ts : Array TypeId} {y : X} {ys : List X} (h : Inv P g w a s) (ho : o.op = .call { callee := .builtin (if mx then .max else .min), args := xs, argTypes := ts })
    (hx : valsOk xs.toList (y :: ys) = true) {p r : D} (h1 : (s.x y).toD = some p) (h2 : minMaxs s mx p ys = some r) (hp : s.put o.dst (.d r) = some s') : OpRes P g w a o s' := by
  obtain ⟨xs⟩ := xs
  cases xs with
  | nil => simp [valsOk] at hx
  | cons x xs =>
    simp only [valsOk, Bool.and_eq_true] at hx
    obtain ⟨v, q1, q2⟩ := minMaxs_run (P := P) h hx.2 h2 (x_toD h hx.1 h1)
    refine OpRes.value (l := .ret 0) h (u := v) ?_ hp rfl (by simp only [RepF]; exact q2)
    unfold execOp
    cases mx
    · simp only [Bool.false_eq_true, if_false] at ho q1
      simp only [ho, resolve, invoke, builtin, Sem.run_bind, Sem.run_pure, Result.andThen_ok, List.map_toArray, List.map_cons, Builtin.min_, q1]
    · simp only [if_true] at ho q1
      simp only [ho, resolve, invoke, builtin, Sem.run_bind, Sem.run_pure, Result.andThen_ok, List.map_toArray, List.map_cons, Builtin.max_, q1]
end
end Go.Pe

namespace Go.Pe
section
variable {P : Program} {g : G} {w : World} {a : Act} {s s' : St} {S : Nat → Nat → Prop}

def aggOk (P : Program) (t : TypeId) : Option Nat → Bool
  | some n => (match P.underlying t with | some (.struct _) | some (.array _ _) => true | _ => false) && (match P.info? t with | some i => i.size == n | none => false)
  | none => (match P.underlying t with | some (.struct _) | some (.array _ _) => false | some _ => true | none => false) && (match P.info? t with | some i => i.size == 1 | none => false)

theorem aggOk_some {t : TypeId} {n : Nat} (h : aggOk P t (some n) = true) (w : World) : (isAgg t).run P w = .ok true w ∧ (sizeOf t).run P w = .ok n w := by
  simp only [aggOk, Bool.and_eq_true] at h
  obtain ⟨h1, h2⟩ := h
  split at h2
  · rename_i i hi
    simp at h2
    subst h2
    refine ⟨?_, by simp [sizeOf, typeInfo, hi]⟩
    split at h1
    · rename_i fs hu; simp [isAgg, run_underlying hu]
    · rename_i n e hu; simp [isAgg, run_underlying hu]
    · simp at h1
  · simp at h2

theorem aggOk_none {t : TypeId} (h : aggOk P t none = true) (w : World) : (isAgg t).run P w = .ok false w ∧ (sizeOf t).run P w = .ok 1 w := by
  simp only [aggOk, Bool.and_eq_true] at h
  obtain ⟨h1, h2⟩ := h
  split at h2
  · rename_i i hi
    simp at h2
    refine ⟨?_, by simp [sizeOf, typeInfo, hi, h2]⟩
    split at h1
    · simp at h1
    · simp at h1
    · rename_i d k1 k2 hu
      simp only [isAgg, Sem.run_bind, run_underlying hu, Result.andThen_ok]
      rfl
    · simp at h1
  · simp at h2

theorem part_run {cs : List D} {vs : Array Value} (hl : vs.size = cs.length) (ha : ∀ c ∈ cs, c.isAgg = false) (hr : ∀ (j : Nat) (c : D) (v : Value), cs[j]? = some c → vs[j]? = some v → DRep S w c v)
    {t : TypeId} {off : Nat} {agg : Option Nat} (hg : aggOk P t agg = true) {d : D}
    (hd : partD cs off agg = some d) :
    ∃ v, (part t vs off).run P w = .ok v w ∧ DRep S w d v := by
  cases agg with
  | none =>
    simp only [partD] at hd
    obtain ⟨k1, k2⟩ := aggOk_none hg w
    have hlt := (List.getElem?_eq_some_iff.1 hd).1
    have hv : vs[off]? = some vs[off] := Array.getElem?_eq_getElem (by omega)
    exact ⟨vs[off], by simp [part, k1, hv], hr off d _ hd hv⟩
  | some n =>
    simp only [partD] at hd
    split at hd
    · rename_i hle
      simp only [Option.some.injEq] at hd
      subst hd
      obtain ⟨k1, k2⟩ := aggOk_some hg w
      refine ⟨.agg (vs.extract off (off + n)), by simp [part, k1, k2], ?_⟩
      refine .agg _ _ (by simp; omega) ?_ ?_
      · intro c hc
        exact ha c (List.mem_of_mem_drop (List.mem_of_mem_take hc))
      · intro j c v hj hv
        rw [List.getElem?_take] at hj
        split at hj
        · rename_i hjn
          rw [List.getElem?_drop] at hj
          refine hr (off + j) c v hj ?_
          rw [Array.getElem?_extract] at hv
          split at hv
          · exact hv
          · simp at hv
        · simp at hj
    · simp at hd

theorem op_fld {o : Oper} {t : TypeId} {x : Operand} {x' : X} {f off : Nat} {agg : Option Nat} {fs : Array Field} {fd : Field} (h : Inv P g w a s) (ho : o.op = .field t x f) (ht : P.underlying t = some (.struct fs)) (hf : fs[f]? = some fd)
    (hoff : fd.offset = off) (hg : aggOk P fd.type agg = true) (hx : xOk x x' = true) {cs : List D} (h1 : (s.x x').toD = some (.agg cs)) {d : D}
    (hd : partD cs off agg = some d)
    (hp : s.put o.dst (.d d) = some s') : OpRes P g w a o s' := by
  obtain ⟨vs, e1, e2, e3, e4⟩ := (x_toD h hx h1).agg_inv
  obtain ⟨v, q1, q2⟩ := part_run (P := P) e2 e3 e4 hg hd
  refine OpRes.value (l := .ret 0) h (u := v) ?_ hp rfl (by simp only [RepF]; exact q2)
  unfold execOp
  subst hoff
  simp [ho, e1, Instr.field, run_underlying ht, hf, asAgg, q1]

theorem tup_slot (h : Inv P g w a s) {n : Nat} {vs : List PV} (ht : s.tm.getD n .dead = .tup vs) : s.tm[n]? = some (.tup vs) ∧ ∃ us : List Value, a.va n = .tuple us.toArray ∧ us.length = vs.length ∧
    ∀ (j : Nat) (p : PV) (u : Value), vs[j]? = some p → us[j]? = some u → RepF P g w (.tm n (j + 1)) p u := by
  obtain ⟨h1, h2⟩ := h.slot' ht (by simp)
  exact ⟨h1, h2⟩

theorem op_ext {o : Oper} {n i : Nat} (h : Inv P g w a s) (ho : o.op = .extract (.tmp n) i) {vs : List PV} (ht : s.tm.getD n .dead = .tup vs) {p q : PV} (hi : vs[i]? = some p) (hq : p.cp = some q)
    (hp : s.put o.dst q = some s') : OpRes P g w a o s' := by
  obtain ⟨h1, us, e1, e2, e3⟩ := tup_slot h ht
  have hlt := (List.getElem?_eq_some_iff.1 hi).1
  have hu : us[i]? = some us[i] := List.getElem?_eq_getElem (by omega)
  obtain ⟨k1, k2⟩ := (e3 i p _ hi hu).cp hq
  refine OpRes.value h (u := us[i]) ?_ hp k1 k2
  have e1' : a.tmps.getD n undef = .tuple us.toArray := e1
  unfold execOp
  simp [ho, Act.eval, e1', Instr.extract, hu]

end
end Go.Pe

namespace Go.Pe
section
variable {P : Program} {g : G} {w : World} {a : Act} {s s' : St} {S : Nat → Nat → Prop}

def oxOk : Option Operand → Option X → Bool
  | none, none => true
  | some x, some y => xOk x y
  | _, _ => false

theorem optInt_some (h : Inv P g w a s) {x : Option Operand} {y : Option X} (hx : oxOk x y = true) {d n : Int} (hn : optInt s y d = some n) :
    (x = none ∧ n = d) ∨ ∃ k, x.map a.eval = some (.int k n) := by
  cases x with
  | none =>
    cases y with
    | none => simp only [optInt, Option.some.injEq] at hn; exact .inl ⟨rfl, hn.symm⟩
    | some y => simp [oxOk] at hx
  | some x =>
    cases y with
    | none => simp [oxOk] at hx
    | some y =>
      simp only [optInt] at hn
      split at hn
      · rename_i k m hm
        simp only [Option.some.injEq] at hn
        subst hn
        exact .inr ⟨k, by rw [Option.map_some, (x_toD h hx hm).int_inv]⟩
      · simp at hn

theorem run_sliceBound' (k : IntKind) (i : Int) (y : Nat) (c : BoundsCode) (h0 : 0 ≤ i) (h1 : i ≤ y) : (Instr.sliceBound (.int k i) y c).run P w = .ok i.toNat w := by
  simp [Instr.sliceBound, asIntOf, h0, h1]

theorem bounds_run (h : Inv P g w a s) {isS : Bool} {len cap : Nat} {lo hi : Option Operand} {lo' hi' : Option X} (hlo : oxOk lo lo' = true) (hhi : oxOk hi hi' = true) {l u : Int}
    (h1 : optInt s lo' 0 = some l) (h2 : optInt s hi' len = some u) (hb : boundsOk l u len = true) (hc : len ≤ cap) :
    (Instr.sliceBounds isS len cap (lo.map a.eval) (hi.map a.eval) none).run P w = .ok (l.toNat, u.toNat, cap) w := by
  simp only [boundsOk, Bool.and_eq_true, decide_eq_true_eq] at hb
  obtain ⟨⟨b1, b2⟩, b3⟩ := hb
  rcases optInt_some h hlo h1 with ⟨rfl, rfl⟩ | ⟨kl, el⟩ <;> rcases optInt_some h hhi h2 with ⟨rfl, rfl⟩ | ⟨ku, eu⟩
  · simp [Instr.sliceBounds]
  · rw [eu]
    simp [Instr.sliceBounds, run_sliceBound' ku u cap _ (by omega) (by omega)]
  · rw [el]
    simp [Instr.sliceBounds, run_sliceBound' kl l len _ (by omega) (by omega)]
  · rw [el, eu]
    simp [Instr.sliceBounds, run_sliceBound' ku u cap _ (by omega) (by omega), run_sliceBound' kl l u.toNat _ (by omega) (by omega)]

theorem bounds_run_max (h : Inv P g w a s) {isS : Bool} {len cap : Nat} {lo : Option Operand} {hi mx : Operand} {lo' : Option X} {hi' mx' : X} (hlo : oxOk lo lo' = true) (hhi : xOk hi hi' = true) (hmx : xOk mx mx' = true) {l u : Int}
    (h1 : optInt s lo' 0 = some l) (h2 : optInt s (some hi') len = some u) (h3 : optInt s (some mx') 0 = some u) (hb : boundsOk l u len = true) (hc : len ≤ cap) :
    (Instr.sliceBounds isS len cap (lo.map a.eval) (some (a.eval hi)) (some (a.eval mx))).run P w = .ok (l.toNat, u.toNat, u.toNat) w := by
  simp only [boundsOk, Bool.and_eq_true, decide_eq_true_eq] at hb
  obtain ⟨⟨b1, b2⟩, b3⟩ := hb
  obtain ⟨ku, eu⟩ := (optInt_some h (x := some hi) (y := some hi') hhi h2).resolve_left (by simp)
  obtain ⟨km, em⟩ := (optInt_some h (x := some mx) (y := some mx') hmx h3).resolve_left (by simp)
  simp only [Option.map_some, Option.some.injEq] at eu em
  rcases optInt_some h hlo h1 with ⟨rfl, rfl⟩ | ⟨kl, el⟩
  · simp [Instr.sliceBounds, eu, em, run_sliceBound' km u cap _ (by omega) (by omega), run_sliceBound' ku u u.toNat _ (by omega) (by omega)]
  · rw [el]
    simp [Instr.sliceBounds, eu, em, run_sliceBound' km u cap _ (by omega) (by omega), run_sliceBound' ku u u.toNat _ (by omega) (by omega), run_sliceBound' kl l u.toNat _ (by omega) (by omega)]

theorem cutD_length {xs : List D} {l u : Int} (hb : boundsOk l u xs.length = true) : (cutD xs l u).length = u.toNat - l.toNat := by
  simp only [boundsOk, Bool.and_eq_true, decide_eq_true_eq] at hb
  simp only [cutD, List.length_drop, List.length_take]
  omega

theorem cutD_get {xs : List D} {l u : Int} {i : Nat} {x : D} (h : (cutD xs l u)[i]? = some x) : xs[l.toNat + i]? = some x := by
  simp only [cutD, List.getElem?_drop] at h
  rw [List.getElem?_take] at h
  split at h
  · exact h
  · simp at h

theorem DRep.cut {xs : List D} {ad : Option Addr} {n cap sz m : Nat} (h : DRep S w (.sl xs) (.slice ad n cap)) {l u : Int} (hb : boundsOk l u xs.length = true) (hw : xs.all (fun y => y.width == sz) = true) (hm : u.toNat ≤ m) :
    DRep S w (.sl (cutD xs l u)) (.slice (if m = l.toNat then ad else ad.map (·.add (l.toNat * sz))) (u.toNat - l.toNat) (m - l.toNat)) := by
  have hlen := cutD_length hb
  by_cases h0 : cutD xs l u = []
  · have : u.toNat - l.toNat = 0 := by rw [h0] at hlen; simpa using hlen.symm
    rw [h0, this]
    exact .sl0 _ _
  · have hpos : 0 < u.toNat - l.toNat := by
      rw [← hlen]
      exact List.length_pos_iff.2 h0
    have hxs : xs ≠ [] := by
      intro e
      subst e
      simp [cutD] at h0
    rw [if_neg (by omega)]
    cases h with
    | sl0 => exact absurd rfl hxs
    | sl _ b o sz' cap f hc hwd ha hmm hrep =>
      obtain ⟨x0, r0, e0⟩ : ∃ x r, xs = x :: r := by
        cases xs with
        | nil => exact absurd rfl hxs
        | cons x r => exact ⟨x, r, rfl⟩
      have hsz : sz' = sz := by
        have h1 := hwd x0 (by rw [e0]; simp)
        have h2 := List.all_eq_true.1 hw x0 (by rw [e0]; simp)
        simp at h2
        omega
      subst hsz
      simp only [Option.map_some, Addr.add_lit]
      rw [← hlen]
      refine .sl _ b (o + l.toNat * sz') sz' _ (fun i j => f (l.toNat + i) j) ?_ ?_ ?_ ?_ ?_
      · rw [hlen]; omega
      · intro x hx
        exact hwd x (List.mem_of_mem_take (List.mem_of_mem_drop hx))
      · intro x hx
        exact ha x (List.mem_of_mem_take (List.mem_of_mem_drop hx))
      · intro i x j c hi hj
        have := hmm (l.toNat + i) x j c (cutD_get hi) hj
        rw [show o + l.toNat * sz' + i * sz' + j = o + (l.toNat + i) * sz' + j by rw [Nat.add_mul]; omega]
        exact this
      · intro i x j c hi hj
        exact hrep (l.toNat + i) x j c (cutD_get hi) hj

def slcOk (P : Program) (t : TypeId) : Option Nat → Bool
  | none => match P.underlying t with | some .string => true | _ => false
  | some sz => match P.underlying t with | some (.slice e) => (match P.info? e with | some i => i.size == sz | none => false) | _ => false

theorem op_slc {o : Oper} {t : TypeId} {kind : Option Nat} {x : Operand} {x' : X} {lo hi mx : Option Operand} {lo' hi' mx' : Option X} (h : Inv P g w a s) (ho : o.op = .slice t x lo hi mx) (ht : slcOk P t kind = true) (hx : xOk x x' = true)
    (hlo : oxOk lo lo' = true) (hhi : oxOk hi hi' = true) (hmx : oxOk mx mx' = true) (hmh : mx.isSome = true → hi.isSome = true) {p : PV} (hs : sliceOp s kind x' lo' hi' mx' = some p) (hp : s.put o.dst p = some s') : OpRes P g w a o s' := by
  have fin : ∀ v, (Instr.sliceAt t (a.eval x) (lo.map a.eval) (hi.map a.eval) (mx.map a.eval)).run P w = .ok v w → p.plain = true → RepF P g w (.ret 0) p v → OpRes P g w a o s' := by
    intro v e1 e2 e3
    refine OpRes.value (l := .ret 0) h (u := v) ?_ hp e2 e3
    unfold execOp
    simp only [ho, Sem.run_bind, e1, Result.andThen_ok, Sem.run_pure]
  unfold sliceOp at hs
  split at hs
  · rename_i b hb
    have e1 := (x_toD h hx hb).str_inv
    simp only [slcOk] at ht
    split at ht
    · rename_i hu
      split at hs
      · rename_i l u h1 h2
        split at hs
        · rename_i hbo
          simp only [Option.some.injEq] at hs
          subst hs
          have hb2 := bounds_run (P := P) (isS := false) (cap := b.size) h hlo hhi h1 h2 hbo (Nat.le_refl _)
          have hm : mx = none := by cases mx with | none => rfl | some _ => simp [oxOk] at hmx
          subst hm
          refine fin (.string (b.extract l.toNat u.toNat)) ?_ rfl (by simp only [RepF]; exact .str _)
          simp [Instr.sliceAt, run_underlying hu, e1, Instr.slice, hb2]
        · simp at hs
      · simp at hs
    · simp at ht
  · rename_i sz hb0
    split at hs
    · rename_i id b0 len hv
      obtain ⟨_, k2⟩ := x_cp h hx (q := .rowh id b0 len) (by rw [hv]; rfl)
      have k3 := k2 (.ret 0)
      simp only [RepF] at k3
      obtain ⟨kid, ad, cap, e1, e2, e3⟩ := k3
      simp only [slcOk] at ht
      split at ht
      · rename_i e hu
        split at ht
        · rename_i i hinf
          simp at ht
          split at hs
          · rename_i l u h1 h2
            split at hs
            · rename_i hbo
              simp only [Option.some.injEq] at hs
              subst hs
              have hb2 := bounds_run (P := P) (isS := true) (cap := cap) h hlo hhi h1 h2 hbo e2
              have hm : mx = none := by cases mx with | none => rfl | some _ => simp [oxOk] at hmx
              subst hm
              refine fin (.slice (if cap = l.toNat then ad else ad.map (·.add (l.toNat * sz))) (u.toNat - l.toNat) (cap - l.toNat)) ?_ rfl ?_
              · simp [Instr.sliceAt, run_underlying hu, e1, Instr.slice, hb2, sizeOf, typeInfo, hinf, ht]
              · simp only [boundsOk, Bool.and_eq_true, decide_eq_true_eq] at hbo
                simp only [RepF]
                refine ⟨kid, _, _, rfl, by omega, fun hne => ?_⟩
                rw [if_neg (by omega), e3 (by omega)]
                simp only [Option.map_some, Addr.add_lit]
            · simp at hs
          · simp at hs
        · simp at ht
      · simp at ht
    · simp at hs
  · rename_i sz xs hb
    have r1 := x_toD h hx hb
    obtain ⟨ad, cap, e1, e2⟩ := r1.sl_inv
    simp only [slcOk] at ht
    split at ht
    · rename_i e hu
      split at ht
      · rename_i i hinf
        simp at ht
        split at hs
        · rename_i hw
          rw [e1] at r1
          split at hs
          · rename_i l u h1 h2
            split at hs
            · split at hs
              · rename_i hbo
                simp only [Option.some.injEq] at hs
                subst hs
                have hb2 := bounds_run (P := P) (isS := true) (cap := cap) h hlo hhi h1 h2 hbo e2
                have hm : mx = none := by cases mx with | none => rfl | some _ => simp [oxOk] at hmx
                subst hm
                have hul : u.toNat ≤ cap := by
                  simp only [boundsOk, Bool.and_eq_true, decide_eq_true_eq] at hbo
                  omega
                refine fin _ ?_ rfl (by simp only [RepF]; exact r1.cut (m := cap) hbo hw hul)
                simp [Instr.sliceAt, run_underlying hu, e1, Instr.slice, hb2, sizeOf, typeInfo, hinf, ht]
              · simp at hs
            · rename_i m' hq
              cases mx with
              | none => simp [oxOk] at hmx
              | some mx =>
                cases hi with
                | none => simp at hmh
                | some hi =>
                  cases hi' with
                  | none => simp [oxOk] at hhi
                  | some hi' =>
                    split at hs
                    · rename_i m h3
                      split at hs
                      · rename_i hbo
                        simp only [Bool.and_eq_true, beq_iff_eq] at hbo
                        obtain ⟨hbo, rfl⟩ := hbo
                        simp only [Option.some.injEq] at hs
                        subst hs
                        have hb2 := bounds_run_max (P := P) (isS := true) (cap := cap) h hlo hhi hmx h1 h2 h3 hbo e2
                        have hlen := cutD_length hbo
                        refine fin _ ?_ rfl (by simp only [RepF]; exact ⟨_, by rw [hlen], r1.cut (m := m.toNat) hbo hw (Nat.le_refl _)⟩)
                        simp [Instr.sliceAt, run_underlying hu, e1, Instr.slice, hb2, sizeOf, typeInfo, hinf, ht]
                      · simp at hs
                    · simp at hs
          · simp at hs
        · simp at hs
      · simp at ht
    · simp at ht
  · simp at hs

end
end Go.Pe

namespace Go.Pe
section
variable {P : Program} {g : G} {w : World} {a : Act} {s s' : St} {S : Nat → Nat → Prop}

def setFold (off : Nat) (cells : Array Value) (l : List (Value × Nat)) : Array Value := l.foldl (fun cs (c, j) => cs.setIfInBounds (off + j) c) cells

theorem setFold_size (off : Nat) : ∀ (l : List (Value × Nat)) (cells : Array Value), (setFold off cells l).size = cells.size
  | [], cells => rfl
  | (c, j) :: l, cells => by
    show (setFold off (cells.setIfInBounds (off + j) c) l).size = _
    rw [setFold_size off l]
    simp

theorem setFold_get (off : Nat) : ∀ (vl : List Value) (k : Nat) (cells : Array Value) (p : Nat), off + k + vl.length ≤ cells.size →
    (setFold off cells (vl.zipIdx k))[p]? = if off + k ≤ p ∧ p < off + k + vl.length then vl[p - (off + k)]? else cells[p]?
  | [], k, cells, p, _ => by
    rw [if_neg (by simp)]
    rfl
  | v :: vl, k, cells, p, h => by
    simp only [List.length_cons] at h
    show (setFold off (cells.setIfInBounds (off + k) v) (vl.zipIdx (k + 1)))[p]? = _
    rw [setFold_get off vl (k + 1) _ p (by simp; omega)]
    simp only [List.length_cons]
    by_cases h1 : off + k ≤ p ∧ p < off + k + (vl.length + 1)
    · rw [if_pos h1]
      by_cases h2 : p = off + k
      · subst h2
        rw [if_neg (by omega)]
        simp [show off + k < cells.size by omega]
      · rw [if_pos (by omega)]
        obtain ⟨q, hq⟩ : ∃ q, p - (off + k) = q + 1 := ⟨p - (off + k) - 1, by omega⟩
        rw [hq, List.getElem?_cons_succ]
        congr 1
        omega
    · rw [if_neg h1, if_neg (by omega)]
      rw [Array.getElem?_setIfInBounds, if_neg (by omega)]

theorem fill_step (place : Nat → Option (Nat × Nat)) (cells : Array Value) (i : Nat) (v : Value) (rest : List (Nat × Value)) {off size : Nat} (hp : place i = some (off, size)) (h1 : v.cells.size = size) (h2 : off + size ≤ cells.size) :
    Instr.fill place cells ((i, v) :: rest) = Instr.fill place (setFold off cells (v.cells.toList.zipIdx 0)) rest := by
  subst h1
  simp only [Instr.fill, hp, ne_eq, not_true_eq_false, decide_false, Bool.false_or, decide_eq_true_eq]
  rw [if_neg (by omega)]
  congr 1
  rw [← Array.foldl_toList]
  simp [setFold]

structure RowRel (S : Nat → Nat → Prop) (w : World) (cells : Array Value) (zs : List D) : Prop where
  size : cells.size = zs.length
  one : ∀ c ∈ zs, c.isAgg = false
  rep : ∀ (j : Nat) (c : D) (v : Value), zs[j]? = some c → cells[j]? = some v → DRep S w c v

theorem RowRel.of_val {d : D} {v : Value} (h : DRep S w d v) : RowRel S w v.cells d.cells := by
  cases h with
  | agg cs vs hl ha h => exact ⟨hl, ha, h⟩
  | _ =>
    refine ⟨rfl, ?_, ?_⟩
    · intro c hc
      simp only [D.cells, List.mem_singleton] at hc
      subst hc
      rfl
    · intro j c u hj hu
      cases j with
      | zero =>
        simp [D.cells, Value.cells] at hj hu
        subst hj
        subst hu
        first
        | exact .bool _ | exact .int _ _ | exact .str _ | exact .nilp | exact .nilf | exact .nili | exact .sl0 _ _ | exact .fe _ | exact .nils
        | (rename_i h; exact .ifc _ _ _ h)
        | (rename_i ha hm h; exact .ptr _ _ _ _ _ ha hm h)
        | (rename_i hc hw ha hm h; exact .sl _ _ _ _ _ _ hc hw ha hm h)
      | succ j => simp [D.cells] at hj

theorem setDs_length : ∀ (l : List D) (zs : List D) (off : Nat), (setDs zs off l).length = zs.length
  | [], zs, off => rfl
  | d :: l, zs, off => by rw [setDs, setDs_length l]; simp

theorem setDs_get : ∀ (l : List D) (zs : List D) (off p : Nat), off + l.length ≤ zs.length → (setDs zs off l)[p]? = if off ≤ p ∧ p < off + l.length then l[p - off]? else zs[p]?
  | [], zs, off, p, _ => by
    rw [if_neg (by simp)]
    rfl
  | d :: l, zs, off, p, h => by
    simp only [List.length_cons] at h
    rw [setDs, setDs_get l _ _ _ (by simp; omega)]
    simp only [List.length_cons]
    by_cases h1 : off ≤ p ∧ p < off + (l.length + 1)
    · rw [if_pos h1]
      by_cases h2 : p = off
      · subst h2
        rw [if_neg (by omega)]
        simp [show p < zs.length by omega]
      · rw [if_pos (by omega)]
        obtain ⟨q, hq⟩ : ∃ q, p - off = q + 1 := ⟨p - off - 1, by omega⟩
        rw [hq, List.getElem?_cons_succ]
        congr 1
        omega
    · rw [if_neg h1, if_neg (by omega), List.getElem?_set_ne (by omega)]

theorem RowRel.set {cells vc : Array Value} {zs dc : List D} (h : RowRel S w cells zs) (k : RowRel S w vc dc) {off : Nat} (hle : off + dc.length ≤ zs.length) :
    RowRel S w (setFold off cells (vc.toList.zipIdx 0)) (setDs zs off dc) := by
  have hl : vc.toList.length = dc.length := by simpa using k.size
  refine ⟨by rw [setFold_size, setDs_length, h.size], ?_, ?_⟩
  · intro c hc
    obtain ⟨j, hj⟩ := List.mem_iff_getElem?.1 hc
    rw [setDs_get _ _ _ _ hle] at hj
    split at hj
    · exact k.one c (List.mem_of_getElem? hj)
    · exact h.one c (List.mem_of_getElem? hj)
  · intro j c v hj hv
    rw [setDs_get _ _ _ _ hle] at hj
    rw [setFold_get off vc.toList 0 cells j (by rw [hl, h.size]; omega)] at hv
    simp only [Nat.add_zero, hl] at hv
    split at hj
    · rename_i hc
      rw [if_pos hc] at hv
      exact k.rep _ c v hj (by simpa using hv)
    · rename_i hc
      rw [if_neg hc] at hv
      exact h.rep j c v hj hv

def partsOk (place : Nat → Option (Nat × Nat)) : List (Nat × Operand) → List (Nat × Nat × X) → Bool
  | [], [] => true
  | (i, x) :: r, (o, n, y) :: r' => place i == some (o, n) && xOk x y && partsOk place r r'
  | _, _ => false

theorem fill_ok (h : Inv P g w a s) (place : Nat → Option (Nat × Nat)) : ∀ {parts : List (Nat × Operand)} {parts' : List (Nat × Nat × X)}, partsOk place parts parts' = true → ∀ {zs cs : List D} {cells : Array Value}, fillD s zs parts' = some cs → RowRel g.stab w cells zs →
    ∃ cells', Instr.fill place cells (parts.map fun (i, x) => (i, a.eval x)) = some cells' ∧ RowRel g.stab w cells' cs
  | [], [], _, zs, cs, cells, hf, hr => by
    simp only [fillD, Option.some.injEq] at hf
    subst hf
    exact ⟨cells, rfl, hr⟩
  | (i, x) :: r, (o, n, y) :: r', hp, zs, cs, cells, hf, hr => by
    simp only [partsOk, Bool.and_eq_true, beq_iff_eq] at hp
    obtain ⟨⟨hp1, hp2⟩, hp3⟩ := hp
    simp only [fillD] at hf
    split at hf
    · rename_i v hv
      split at hf
      · rename_i hc
        simp only [Bool.and_eq_true, decide_eq_true_eq] at hc
        have k := RowRel.of_val (x_toD h hp2 hv)
        have hw : v.cells.length = n := hc.1
        have hn : (a.eval x).cells.size = n := k.size.trans hw
        obtain ⟨cells', q1, q2⟩ := fill_ok h place hp3 hf (hr.set k (off := o) (by rw [hw]; exact hc.2))
        refine ⟨cells', ?_, q2⟩
        rw [List.map_cons, fill_step place cells i (a.eval x) _ hp1 hn (by rw [hr.size]; exact hc.2)]
        exact q1
      · simp at hf
    · simp at hf
  | [], _ :: _, hp, _, _, _, _, _ => by simp [partsOk] at hp
  | _ :: _, [], hp, _, _, _, _, _ => by simp [partsOk] at hp

def bldOk (P : Program) (t : TypeId) (zero : List D) (parts : List (Nat × Operand)) (parts' : List (Nat × Nat × X)) : Bool :=
  match P.info? t, P.underlying t with
  | some it, some (.array _ e) =>
    match it.zero, P.info? e with
    | some z, some ie => constDs z.cells.toList zero && partsOk (fun i => some (i * ie.size, ie.size)) parts parts'
    | _, _ => false
  | some it, some (.struct fields) =>
    match it.zero, fields.toList.mapM (fun f => (P.info? f.type).map fun i => (f.offset, i.size)) with
    | some z, some places => constDs z.cells.toList zero && partsOk (places.toArray[·]?) parts parts'
    | _, _ => false
  | _, _ => false

theorem RowRel.of_const {z : Array Value} {zero : List D} (h : constDs z.toList zero = true) : RowRel S w z zero := by
  obtain ⟨h1, h2, h3⟩ := constDs_ok h S w
  exact ⟨by simpa using h1, h2, fun j c v hj hv => h3 j c v hj (by simpa using hv)⟩

theorem op_bld {o : Oper} {t : TypeId} {parts : Array (Nat × Operand)} {zero : List D} {parts' : List (Nat × Nat × X)} (h : Inv P g w a s) (ho : o.op = .build t parts) (hb : bldOk P t zero parts.toList parts' = true)
    {cs : List D} (hf : fillD s zero parts' = some cs) (hp : s.put o.dst (.d (.agg cs)) = some s') : OpRes P g w a o s' := by
  have fin : ∀ cells, P.built t (parts.toList.map fun (i, x) => (i, a.eval x)) = some cells → RowRel g.stab w cells cs → OpRes P g w a o s' := by
    intro cells e1 e2
    refine OpRes.value (l := .ret 0) h (u := .agg cells) ?_ hp rfl (by simp only [RepF]; exact .agg _ _ e2.size e2.one e2.rep)
    unfold execOp
    have := run_build (P := P) w t (parts.map fun (i, x) => (i, a.eval x)) cells (by simpa using e1)
    simp only [ho, Sem.run_bind, this, Result.andThen_ok, Sem.run_pure]
  unfold bldOk at hb
  split at hb
  · rename_i it n e hi hu
    split at hb
    · rename_i z ie hz hie
      simp only [Bool.and_eq_true] at hb
      obtain ⟨cells, q1, q2⟩ := fill_ok h _ hb.2 hf (RowRel.of_const hb.1)
      exact fin cells (by simp only [Program.built, hi, hu, hz, hie]; exact q1) q2
    · simp at hb
  · rename_i it fields hi hu
    split at hb
    · rename_i z places hz hpl
      simp only [Bool.and_eq_true] at hb
      obtain ⟨cells, q1, q2⟩ := fill_ok h _ hb.2 hf (RowRel.of_const hb.1)
      exact fin cells (by simp only [Program.built, hi, hu, hz, hpl]; exact q1) q2
    · simp at hb
  · simp at hb

end
end Go.Pe

namespace Go.Pe
section
variable {P : Program} {g : G} {w : World} {a : Act} {s s' : St} {S : Nat → Nat → Prop}

def G.relab (g : G) (f : Loc → Loc) : G := { g with κ := fun b => (g.κ b).map f }

theorem G.relab_stab {g : G} {f : Loc → Loc} {b i : Nat} : (g.relab f).stab b i ↔ g.stab b i := by
  simp [G.stab, G.relab]

theorem Chg.relab (M : Loc → Prop) {f : Loc → Loc} (hf : ∀ l, ¬ M l → f l = l) : Chg M g w (g.relab f) w :=
  ⟨rfl, rfl, rfl, Nat.le_refl _, fun _ _ _ h k => ⟨h, G.relab_stab.2 k⟩, fun b l _ hk hn => ⟨by simp [G.relab, hk, hf l hn], rfl, rfl⟩, fun b _ hk => ⟨by simp [G.relab, hk], rfl⟩, Nat.le_refl _, fun _ _ => rfl⟩

theorem RepF.relab_own {f : Loc → Loc} {l : Loc} {e : Nat} {xs : List D} {v : Value} (h : RepF P g w l (.own e xs) v) : RepF P (g.relab f) w (f l) (.own e xs) v := by
  simp only [RepF] at h ⊢
  obtain ⟨us, h1, h2, h3⟩ := h
  exact ⟨us, h1, h2.mono fun _ _ _ hc hs => ⟨hc, G.relab_stab.2 hs⟩, fun b hb => ⟨by simp [G.relab, (h3 b hb).1], (h3 b hb).2⟩⟩

def mvLoc (l l' : Loc) (x : Loc) : Loc := if x = l then l' else x

theorem Chg.mv (l l' : Loc) : Chg (fun x => x = l) g w (g.relab (mvLoc l l')) w := Chg.relab _ fun x hx => by simp [mvLoc, hx]

theorem RepF.mv {l l' : Loc} {e : Nat} {xs : List D} {v : Value} (h : RepF P g w l (.own e xs) v) : RepF P (g.relab (mvLoc l l')) w l' (.own e xs) v := by
  have := h.relab_own (f := mvLoc l l')
  simpa [mvLoc] using this

theorem HeapInv.mv {hp : List Ent} (h : HeapInv P g w hp) {l l' : Loc} (hl : ∀ id, l ≠ .bx id ∧ ∀ j, l ≠ .cell id j) : HeapInv P (g.relab (mvLoc l l')) w hp :=
  h.mono (Chg.mv l l') (fun id => ⟨fun e => (hl id).1 e.symm, fun j e => (hl id).2 j e.symm⟩) rfl

theorem mine_of_eq {l : Loc} (hl : Mine l) : ∀ x, x = l → Mine x := fun x hx => hx ▸ hl
theorem mine_tm (t j : Nat) : Mine (.tm t j) := fun _ h => by cases h
theorem mine_cell (t j : Nat) : Mine (.cell t j) := fun _ h => by cases h
theorem mine_bx (t : Nat) : Mine (.bx t) := fun _ h => by cases h

theorem Inv.take_slotc (h : Inv P g w a s) {n d : Nat} {e : Nat} {xs : List D} (hn : s.tm.getD n .dead = .own e xs) (hp : St.put { s with tm := s.tm.set n (.d (.sl xs)) } (some d) (.own e xs) = some s') :
    Inv P (g.relab (mvLoc (.tm n 0) (.tm d 0))) w (a.put (some d) (a.va n)) s' := by
  obtain ⟨h1, h2⟩ := h.slot' hn (by simp)
  have hown : RepF P g w (.tm n 0) (.own e xs) (a.va n) := h2
  obtain ⟨rfl, hne⟩ := put_some hp
  simp only at hne
  refine ⟨by simp [Act.put, h.size], ?_, h.heap.mv (by intro id; exact ⟨fun e => (by cases e), fun j e => (by cases e)⟩)⟩
  intro t p ht
  simp only at ht
  by_cases ed : t = d
  · subst ed
    have hl : t < s.tm.length := by
      have := (List.getElem?_eq_some_iff.1 ht).1
      simpa using this
    rw [List.getElem?_set_self (by simpa using hl)] at ht
    simp only [Option.some.injEq] at ht
    subst ht
    rw [va_put_same (by rw [h.size]; exact hl)]
    exact hown.mv
  · rw [List.getElem?_set_ne (Ne.symm ed)] at ht
    rw [va_put_other ed]
    by_cases en : t = n
    · subst en
      have hl : t < s.tm.length := (List.getElem?_eq_some_iff.1 h1).1
      rw [List.getElem?_set_self hl] at ht
      simp only [Option.some.injEq] at ht
      subst ht
      have hd : RepF P g w (.tm t 0) (.d (.sl xs)) (a.va t) := (hown.cp rfl).2
      have hd' : RepF P g w (.ret 0) (.d (.sl xs)) (a.va t) := hd
      have hm : RepF P (g.relab (mvLoc (.tm t 0) (.tm d 0))) w (.ret 0) (.d (.sl xs)) (a.va t) := RepF.mono (Chg.mv (.tm t 0) (.tm d 0)) (l := .ret 0) (by intro e; cases e) hd'
      exact hm
    · rw [List.getElem?_set_ne (Ne.symm en)] at ht
      refine (h.slot t p ht).mono (Chg.mv _ _) (fun j hj => en (by injection hj)) ?_
      intro t' cs ht'
      have e1 : t' ≠ n := fun e1 => by rw [e1, h1] at ht'; simp at ht'
      have e2 : t' ≠ d := fun e2 => hne cs (by rw [← e2, List.getElem?_set_ne (Ne.symm e1)]; exact ht')
      exact ⟨⟨cs, by rw [List.getElem?_set_ne (Ne.symm e2), List.getElem?_set_ne (Ne.symm e1)]; exact ht'⟩, va_put_other e2⟩

theorem tk_cases {m : Bool} {x : X} {v : PV} {s1 : St} (h : s.tk m x = some (v, s1)) :
    (s1 = s ∧ (s.x x).cp = some v) ∨ ∃ n e xs, x = .t n ∧ s.tm.getD n .dead = .own e xs ∧ v = .own e xs ∧ s1 = { s with tm := s.tm.set n .dead } := by
  unfold St.tk at h
  split at h
  · rename_i n e xs hx
    simp only [Option.some.injEq, Prod.mk.injEq] at h
    exact .inr ⟨n, e, xs, rfl, hx, h.1.symm, h.2.symm⟩
  · rw [Option.map_eq_some_iff] at h
    obtain ⟨q, hq, he⟩ := h
    simp only [Prod.mk.injEq] at he
    obtain ⟨rfl, rfl⟩ := he
    exact .inl ⟨rfl, hq⟩

theorem tkc_cases {m : Bool} {x : X} {v : PV} {s1 : St} (h : s.tkc m x = some (v, s1)) :
    (s1 = s ∧ (s.x x).cp = some v) ∨ ∃ n e xs, x = .t n ∧ s.tm.getD n .dead = .own e xs ∧ v = .own e xs ∧ s1 = { s with tm := s.tm.set n (.d (.sl xs)) } := by
  unfold St.tkc at h
  split at h
  · rename_i n e xs hx
    simp only [Option.some.injEq, Prod.mk.injEq] at h
    exact .inr ⟨n, e, xs, rfl, hx, h.1.symm, h.2.symm⟩
  · rw [Option.map_eq_some_iff] at h
    obtain ⟨q, hq, he⟩ := h
    simp only [Prod.mk.injEq] at he
    obtain ⟨rfl, rfl⟩ := he
    exact .inl ⟨rfl, hq⟩

theorem op_mv {o : Oper} {x : Operand} {x' : X} {m : Bool} (h : Inv P g w a s) (ho : o.op = .move x ∨ o.op = .assign x) (hx : xOk x x' = true) {v : PV} {s1 : St} (ht : s.tkc m x' = some (v, s1)) {d : Nat} (hd : o.dst = some d)
    (hp : s1.put o.dst v = some s') : OpRes P g w a o s' := by
  have hr : (execOp a.eval o).run P w = .ok (.value (a.eval x)) w := by
    unfold execOp
    rcases ho with ho | ho <;> simp [ho]
  rcases tkc_cases ht with ⟨rfl, hq⟩ | ⟨n, e, xs, rfl, hn, rfl, rfl⟩
  · obtain ⟨k1, k2⟩ := x_cp h hx hq
    exact OpRes.value h hr hp k1 (k2 (.ret 0))
  · have hxn : x = .tmp n := by
      cases x <;> simp [xOk] at hx
      subst hx
      rfl
    subst hxn
    rw [hd] at hp
    have k := h.take_slotc hn hp
    exact ⟨_, a.va n, _, w, hr, .inl rfl, by rw [hd]; exact k, (Chg.mv (g := g) (w := w) (.tm n 0) (.tm d 0)).mono (mine_of_eq (mine_tm n 0))⟩

theorem Chg.alloc (M : Loc → Prop) {g' : G} (o : Obj) (hk : ∀ b, b < w.heap.size → g'.κ b = g.κ b ∧ g'.tip b = g.tip b) (hn : g.nb ≤ g'.nb) (hb : ∀ id, id < g.nb → g'.bb id = g.bb id) : Chg M g w g' (w.alloc o) where
  os := rfl
  tape := rfl
  output := rfl
  size := by simp
  stab := fun b i u hc hs => by
    have hlt := World.block_lt_of_cell? w _ hc
    refine ⟨by rw [World.cell?_alloc_lt w o _ hlt]; exact hc, ?_⟩
    obtain ⟨k1, k2⟩ := hk b hlt
    simpa [G.stab, k1, k2] using hs
  own := fun b l hlt hl _ => ⟨(hk b hlt).1.trans hl, (hk b hlt).2, heap_alloc_old w o b hlt⟩
  free := fun b hlt hl => ⟨(hk b hlt).1.trans hl, heap_alloc_old w o b hlt⟩
  nb := hn
  bb := hb

def G.own (g : G) (b : Nat) (l : Option Loc) (t : Nat) : G := { g with κ := fun x => if x = b then l else g.κ x, tip := fun x => if x = b then t else g.tip x }

theorem Chg.new (M : Loc → Prop) (o : Obj) (l : Option Loc) (t : Nat) : Chg M g w (g.own w.heap.size l t) (w.alloc o) :=
  Chg.alloc M o (fun b hb => by simp [G.own, Nat.ne_of_lt hb]) (Nat.le_refl _) (fun _ _ => rfl)

theorem Inv.box (h : Inv P g w a s) {d : Nat} {cs : List PV} {c : Array Value} {e : TypeId} (hc : ∀ (j : Nat) (p : PV), cs[j]? = some p → ∃ u, c[j]? = some u ∧ u.oneCell' = true ∧ p.plain = true ∧ RepF P g w (.ret 0) p u) (hs : c.size = cs.length)
    (hp : s.put (some d) (.ibox cs) = some s') :
    Inv P (g.own w.heap.size (some (.tm d 0)) 0) (w.alloc (.cells c e)) (a.put (some d) (.pointer (some ⟨w.heap.size, 0, none⟩))) s' ∧ Chg Mine g w (g.own w.heap.size (some (.tm d 0)) 0) (w.alloc (.cells c e)) := by
  have hch := Chg.new (g := g) (w := w) (fun _ => False) (.cells c e) (some (.tm d 0)) 0
  refine ⟨h.put_chg hch (fun _ _ _ hf => hf) (h.heap.mono hch (fun _ => ⟨fun hf => hf, fun _ hf => hf⟩) rfl) hp ?_, hch.mono fun _ hf => hf.elim⟩
  intro ts va
  refine ⟨w.heap.size, c, e, rfl, by simp [G.own], by simp [G.own], heap_alloc_new w _, Nat.le_of_eq hs.symm, fun j p hj => ?_⟩
  obtain ⟨u, h1, h2, h3, h4⟩ := hc j p hj
  exact ⟨u, h1, h2, RepF.move (l := .ret 0) (g := g.own w.heap.size (some (.tm d 0)) 0) (fun _ _ h => h) (Nat.le_refl _) (fun _ _ => rfl) h3 (RepF.mono hch (fun hf => hf) h4)⟩

def zcOk : List Value → List PV → Bool
  | [], [] => true
  | v :: vs, p :: ps => (match v with | .agg _ | .tuple _ => false | _ => true) && (match p with | .bnil _ => (match v with | .pointer none => true | _ => false) | p => constOk v p) && zcOk vs ps
  | _, _ => false

theorem zcOk_ok : ∀ {vs : List Value} {ps : List PV}, zcOk vs ps = true → ∀ (g : G) (w : World), vs.length = ps.length ∧ ∀ (j : Nat) (p : PV), ps[j]? = some p → ∃ u, vs[j]? = some u ∧ u.oneCell' = true ∧ p.plain = true ∧ RepF P g w (.ret 0) p u
  | [], [], _, g, w => ⟨rfl, by simp⟩
  | v :: vs, p :: ps, h, g, w => by
    simp only [zcOk, Bool.and_eq_true] at h
    obtain ⟨⟨h1, h2⟩, h3⟩ := h
    obtain ⟨i1, i2⟩ := zcOk_ok h3 g w
    refine ⟨by simp [i1], ?_⟩
    intro j q hj
    cases j with
    | zero =>
      simp at hj
      subst hj
      split at h2
      · split at h2
        · exact ⟨_, rfl, rfl, rfl, by simp only [RepF]⟩
        · simp at h2
      · obtain ⟨k1, k2⟩ := constOk_ok h2 P g w (.ret 0)
        exact ⟨v, rfl, by cases v <;> first | rfl | (simp at h1), k1, k2⟩
    | succ j =>
      obtain ⟨u, h4⟩ := i2 j q (by simpa using hj)
      exact ⟨u, by simpa using h4⟩
  | [], _ :: _, h, _, _ => by simp [zcOk] at h
  | _ :: _, [], h, _, _ => by simp [zcOk] at h

theorem op_zal {o : Oper} {t : TypeId} {cs : List PV} {z : Value} {i : TypeInfo} (h : Inv P g w a s) (ho : o.op = .alloc t) (hi : P.info? t = some i) (hz : i.zero = some z) (hc : zcOk z.cells.toList cs = true) {d : Nat} (hd : o.dst = some d)
    (hp : s.put o.dst (.ibox cs) = some s') : OpRes P g w a o s' := by
  obtain ⟨h1, h2⟩ := zcOk_ok (P := P) hc g w
  rw [hd] at hp
  obtain ⟨k1, k2⟩ := h.box (e := t) (c := z.cells) (fun j p hj => by obtain ⟨u, h3, h4⟩ := h2 j p hj; exact ⟨u, by simpa using h3, h4⟩) (by simpa using h1) hp
  refine ⟨_, _, _, _, ?_, .inl rfl, by rw [hd]; exact k1, k2⟩
  unfold execOp
  simp [ho, Instr.alloc, zeroValue, typeInfo, hi, hz, newVar, newRow]

theorem op_bx {o : Oper} {t : TypeId} {x : Operand} {x' : X} {agg : Bool} {cs : List PV} (h : Inv P g w a s) (ho : o.op = .box t x) (hx : xOk x x' = true)
    (hc : (if agg then match (s.x x').toD with | some (.agg ds) => some (ds.map PV.d) | _ => none else (s.x x').cp.map ([·])) = some cs) (hone : agg = false → (a.eval x).oneCell' = true) {d : Nat} (hd : o.dst = some d)
    (hp : s.put o.dst (.ibox cs) = some s') : OpRes P g w a o s' := by
  rw [hd] at hp
  have fin : ∀ c : Array Value, (a.eval x).cells = c → c.size = cs.length → (∀ (j : Nat) (p : PV), cs[j]? = some p → ∃ u, c[j]? = some u ∧ u.oneCell' = true ∧ p.plain = true ∧ RepF P g w (.ret 0) p u) → OpRes P g w a o s' := by
    intro c e1 e2 e3
    obtain ⟨k1, k2⟩ := h.box (e := t) (c := c) e3 e2 hp
    refine ⟨_, _, _, _, ?_, .inl rfl, by rw [hd]; exact k1, k2⟩
    unfold execOp
    simp [ho, Instr.box, newVar, newRow, e1]
  cases agg with
  | true =>
    simp only [if_true] at hc
    split at hc
    · rename_i ds hds
      simp only [Option.some.injEq] at hc
      subst hc
      obtain ⟨vs, e1, e2, e3, e4⟩ := (x_toD h hx hds).agg_inv
      refine fin vs (by rw [e1]; rfl) (by simpa using e2) ?_
      intro j p hj
      rw [List.getElem?_map, Option.map_eq_some_iff] at hj
      obtain ⟨c, hc, rfl⟩ := hj
      have hlt := (List.getElem?_eq_some_iff.1 hc).1
      have hv : vs[j]? = some vs[j] := Array.getElem?_eq_getElem (by omega)
      have hr := e4 j c _ hc hv
      exact ⟨vs[j], hv, hr.oneCell (e3 c (List.mem_of_getElem? hc)), rfl, by simp only [RepF]; exact hr⟩
    · simp at hc
  | false =>
    simp only [Bool.false_eq_true, if_false, Option.map_eq_some_iff] at hc
    obtain ⟨q, hq, rfl⟩ := hc
    obtain ⟨k1, k2⟩ := x_cp h hx hq
    have ho1 := hone rfl
    refine fin #[a.eval x] (by cases hv : a.eval x <;> first | rfl | (rw [hv] at ho1; simp [Value.oneCell'] at ho1)) rfl ?_
    intro j p hj
    cases j with
    | zero => simp at hj; subst hj; exact ⟨a.eval x, rfl, ho1, k1, k2 _⟩
    | succ j => simp at hj

end
end Go.Pe

namespace Go.Pe
section
variable {P : Program} {g : G} {w : World} {a : Act} {s s' : St} {S : Nat → Nat → Prop}

theorem x_slot (h : Inv P g w a s) {x : Operand} {y : X} (hx : xOk x y = true) {p : PV} (hp : s.x y = p) (h1 : p.toD = none) (h2 : ∀ f c, p ≠ .fn f c) (h3 : p ≠ .nilsl) (h4 : p ≠ .dead) :
    ∃ n, x = .tmp n ∧ y = .t n ∧ s.tm[n]? = some p ∧ RepS P g w s.tm a.va n p (a.va n) := by
  unfold xOk at hx
  split at hx
  · rename_i n m
    simp at hx
    subst hx
    obtain ⟨k1, k2⟩ := h.slot' (t := n) hp h4
    exact ⟨n, rfl, rfl, k1, k2⟩
  · rename_i v q
    simp only [St.x] at hp
    subst hp
    unfold constOk at hx
    split at hx
    · exact absurd rfl h3
    · simp [PV.toD] at h1
    · simp [PV.toD] at h1
    · simp at hx
  · simp only [St.x] at hp
    exact absurd hp.symm (h2 _ _)
  · simp at hx

theorem Inv.put_ref (h : Inv P g w a s) {d t b off : Nat} {cs : List PV} (h1 : s.tm[t]? = some (.ibox cs)) (h2 : a.va t = .pointer (some ⟨b, 0, none⟩)) (hp : s.put (some d) (.ref t off) = some s') :
    Inv P g w (a.put (some d) (.pointer (some ⟨b, off, none⟩))) s' := by
  obtain ⟨rfl, hne⟩ := put_some hp
  have htd : t ≠ d := fun e => hne cs (e ▸ h1)
  refine ⟨by simp [Act.put, h.size], ?_, h.heap⟩
  intro u p hu
  by_cases e : u = d
  · subst e
    have hl : u < s.tm.length := by
      have := (List.getElem?_eq_some_iff.1 hu).1
      simpa using this
    simp only [List.getElem?_set_self hl, Option.some.injEq] at hu
    subst hu
    rw [va_put_same (by rw [h.size]; exact hl)]
    exact ⟨b, cs, rfl, by rw [va_put_other htd]; exact h2, by simp only [List.getElem?_set_ne (Ne.symm htd)]; exact h1⟩
  · simp only [List.getElem?_set_ne (Ne.symm e)] at hu
    rw [va_put_other e]
    refine (h.slot u p hu).mono (Chg.refl (fun _ => False) g w) (fun _ hf => hf) ?_
    intro t' cs' ht'
    have e' : t' ≠ d := fun e' => hne cs' (e' ▸ ht')
    exact ⟨⟨cs', by simp only [List.getElem?_set_ne (Ne.symm e')]; exact ht'⟩, va_put_other e'⟩

theorem addr_ok (h : Inv P g w a s) {x : Operand} {x' : X} (hx : xOk x x' = true) {off : Nat} {q : PV} (hq : addrOff off (s.x x') x'.self = some q) :
    ∃ b o, a.eval x = .pointer (some ⟨b, o, none⟩) ∧ ∀ {d : Nat} {s' : St}, s.put (some d) q = some s' → Inv P g w (a.put (some d) (.pointer (some ⟨b, o + off, none⟩))) s' := by
  have slot : ∀ p, s.x x' = p → p.toD = none → (∀ f c, p ≠ .fn f c) → p ≠ .nilsl → p ≠ .dead → ∃ n, x = .tmp n ∧ x' = .t n ∧ s.tm[n]? = some p ∧ RepS P g w s.tm a.va n p (a.va n) := fun p hp h1 h2 h3 h4 => x_slot h hx hp h1 h2 h3 h4
  unfold addrOff at hq
  split at hq
  · rename_i cs t hv hs
    simp only [Option.some.injEq] at hq
    subst hq
    obtain ⟨n, rfl, rfl, k1, k2⟩ := slot _ hv rfl (by simp) (by simp) (by simp)
    simp only [X.self, Option.some.injEq] at hs
    subst hs
    obtain ⟨b, c, e, e1, _⟩ := k2
    exact ⟨b, 0, e1, fun hp => by rw [Nat.zero_add]; exact h.put_ref k1 e1 hp⟩
  · rename_i t o hv
    simp only [Option.some.injEq] at hq
    subst hq
    obtain ⟨n, rfl, rfl, k1, k2⟩ := slot _ hv rfl (by simp) (by simp) (by simp)
    obtain ⟨b, cs, e1, e2, e3⟩ := k2
    exact ⟨b, o, e1, fun hp => h.put_ref e3 e2 hp⟩
  · rename_i id o hv
    simp only [Option.some.injEq] at hq
    subst hq
    obtain ⟨n, rfl, rfl, k1, k2⟩ := slot _ hv rfl (by simp) (by simp) (by simp)
    have k3 : RepF P g w (.tm n 0) (.ptr id o) (a.va n) := k2
    simp only [RepF] at k3
    exact ⟨g.bb id, o, k3.2, fun hp => h.put (l := .ret 0) hp rfl (by simp only [RepF]; exact ⟨k3.1, trivial⟩)⟩
  · rename_i y o hv
    simp only [Option.some.injEq] at hq
    subst hq
    obtain ⟨n, rfl, rfl, k1, k2⟩ := slot _ hv rfl (by simp) (by simp) (by simp)
    have k3 : RepF P g w (.tm n 0) (.eptr y o) (a.va n) := k2
    simp only [RepF] at k3
    obtain ⟨b, p, e1, e2, e3⟩ := k3
    exact ⟨b, p + o, e1, fun hp => h.put (l := .ret 0) hp rfl (by simp only [RepF]; exact ⟨b, p, by rw [Nat.add_assoc], e2, e3⟩)⟩
  · rename_i id i o hv
    obtain ⟨n, rfl, rfl, k1, k2⟩ := slot _ hv rfl (by simp) (by simp) (by simp)
    have k3 : RepF P g w (.tm n 0) (.rptr id i o) (a.va n) := k2
    simp only [RepF] at k3
  · simp at hq

def fadOk (P : Program) (t : TypeId) (f off : Nat) : Bool :=
  match P.underlying t with
  | some (.struct fs) => match fs[f]? with
    | some fd => fd.offset == off && (match P.info? fd.type with | some i => i.size != 0 | none => false)
    | none => false
  | _ => false

theorem op_fad {o : Oper} {t : TypeId} {f off : Nat} {x : Operand} {x' : X} (h : Inv P g w a s) (ho : o.op = .fieldAddr t x f) (hf : fadOk P t f off = true) (hx : xOk x x' = true) {q : PV} (hq : addrOff off (s.x x') x'.self = some q)
    {d : Nat} (hd : o.dst = some d) (hp : s.put o.dst q = some s') : OpRes P g w a o s' := by
  obtain ⟨b, p, e1, e2⟩ := addr_ok h hx hq
  unfold fadOk at hf
  split at hf
  · rename_i fs hu
    split at hf
    · rename_i fd hfd
      simp only [Bool.and_eq_true, beq_iff_eq] at hf
      obtain ⟨rfl, hz⟩ := hf
      split at hz
      · rename_i i hi
        simp only [bne_iff_ne, ne_eq] at hz
        rw [hd] at hp
        refine ⟨_, _, g, w, ?_, .inl rfl, by rw [hd]; exact e2 hp, Chg.refl _ _ _⟩
        unfold execOp
        simp [ho, e1, Instr.fieldAt, run_underlying hu, hfd, Instr.sureAddr, fieldPlace, sizeOf, typeInfo, hi, hz, Addr.add_lit]
      · simp at hz
    · simp at hf
  · simp at hf

def iadOk (P : Program) (t : TypeId) (sz : Nat) : Option Nat → Bool
  | some len => match P.underlying t with
    | some (.array n e) => n == len && (match P.info? e with | some i => i.size == sz | none => false)
    | _ => false
  | none => match P.underlying t with
    | some (.slice e) => (match P.info? e with | some i => i.size == sz | none => false)
    | _ => false

theorem op_iad_arr {o : Oper} {t : TypeId} {len sz : Nat} {x i : Operand} {x' i' : X} (h : Inv P g w a s) (ho : o.op = .indexAddr t x i) (hf : iadOk P t sz (some len) = true) (hx : xOk x x' = true) (hi : xOk i i' = true)
    {k : IntKind} {n : Int} (hn : (s.x i').toD = some (.int k n)) (hb : 0 ≤ n ∧ n < len) {q : PV} (hq : addrOff (n.toNat * sz) (s.x x') x'.self = some q)
    {d : Nat} (hd : o.dst = some d) (hp : s.put o.dst q = some s') : OpRes P g w a o s' := by
  obtain ⟨b, p, e1, e2⟩ := addr_ok h hx hq
  have e3 := (x_toD h hi hn).int_inv
  unfold iadOk at hf
  simp only at hf
  split at hf
  · rename_i n' e hu
    simp only [Bool.and_eq_true, beq_iff_eq] at hf
    obtain ⟨rfl, hz⟩ := hf
    split at hz
    · rename_i inf hinf
      simp only [beq_iff_eq] at hz
      rw [hd] at hp
      refine ⟨_, _, g, w, ?_, .inl rfl, by rw [hd]; exact e2 hp, Chg.refl _ _ _⟩
      unfold execOp
      simp [ho, e1, e3, Instr.indexAt, run_underlying hu, asIntOf, Instr.sureAddr, sizeOf, typeInfo, hinf, hz, hb, Addr.add_lit]
    · simp at hz
  · simp at hf

theorem op_iad_sl {o : Oper} {t : TypeId} {sz : Nat} {x i : Operand} {x' i' : X} (h : Inv P g w a s) (ho : o.op = .indexAddr t x i) (hf : iadOk P t sz none = true) (hx : xOk x x' = true) (hi : xOk i i' = true)
    {k : IntKind} {n : Int} (hn : (s.x i').toD = some (.int k n)) {xs : List D} (hxs : (s.x x').toD = some (.sl xs)) (hb : 0 ≤ n) {e : D} (he : xs[n.toNat]? = some e) (hw : e.width = sz)
    (hp : s.put o.dst (.eptr e 0) = some s') : OpRes P g w a o s' := by
  have r1 := x_toD h hx hxs
  have e3 := (x_toD h hi hn).int_inv
  have hlt : n.toNat < xs.length := (List.getElem?_eq_some_iff.1 he).1
  unfold iadOk at hf
  simp only at hf
  split at hf
  · rename_i el hu
    split at hf
    · rename_i inf hinf
      simp only [beq_iff_eq] at hf
      generalize hv : a.eval x = v at r1
      cases r1 with
      | sl0 ad cap => simp at hlt
      | sl _ b o' sz' cap f hc hwd ha hm hr =>
        have hsz : sz' = sz := (hwd e (List.mem_of_getElem? he)).symm.trans hw
        subst hsz
        refine OpRes.value (l := .ret 0) h (u := .pointer (some ⟨b, o' + n.toNat * sz', none⟩)) ?_ hp rfl ?_
        · unfold execOp
          simp [ho, hv, e3, Instr.indexAt, run_underlying hu, asIntOf, sizeOf, typeInfo, hinf, hf, hb, Addr.add_lit, show n < (xs.length : Int) by omega]
        · simp only [RepF]
          refine ⟨b, o' + n.toNat * sz', rfl, fun c hc => ha e (List.mem_of_getElem? he) c hc, ?_⟩
          intro j c hj
          obtain ⟨q1, q2⟩ := hm n.toNat e j c he hj
          exact ⟨f n.toNat j, q1, q2, hr n.toNat e j c he hj⟩
    · simp at hf
  · simp at hf

theorem op_nchk {o : Oper} {x : Operand} {x' : X} (h : Inv P g w a s) (ho : o.op = .nilCheck x) (hx : xOk x x' = true) {q : PV} (hq : s.x x' = q) (hk : (∃ id off, q = .ptr id off) ∨ ∃ y off, q = .eptr y off)
    (hp : s.put o.dst q = some s') : OpRes P g w a o s' := by
  rcases hk with ⟨id, off, rfl⟩ | ⟨y, off, rfl⟩
  · obtain ⟨n, rfl, rfl, k1, k2⟩ := x_slot h hx hq rfl (by simp) (by simp) (by simp)
    have k3 : RepF P g w (.tm n 0) (.ptr id off) (a.va n) := k2
    refine OpRes.value h (u := a.va n) ?_ hp rfl k3
    simp only [RepF] at k3
    have e1 : a.tmps.getD n undef = _ := k3.2
    unfold execOp
    simp only [ho, Act.eval, e1, Act.va]
    rfl
  · obtain ⟨n, rfl, rfl, k1, k2⟩ := x_slot h hx hq rfl (by simp) (by simp) (by simp)
    have k3 : RepF P g w (.tm n 0) (.eptr y off) (a.va n) := k2
    refine OpRes.value h (u := a.va n) ?_ hp rfl k3
    simp only [RepF] at k3
    obtain ⟨b, o2, e1, _⟩ := k3
    have e1 : a.tmps.getD n undef = _ := e1
    unfold execOp
    simp only [ho, Act.eval, e1, Act.va]
    rfl

theorem op_nchk_d {o : Oper} {x : Operand} {x' : X} (h : Inv P g w a s) (ho : o.op = .nilCheck x) (hx : xOk x x' = true) {y : D} {off : Nat} (hq : s.x x' = .d (.ptr y off))
    (hp : s.put o.dst (.eptr y off) = some s') : OpRes P g w a o s' := by
  obtain ⟨b, o2, e1, e2, e3⟩ := (x_toD h hx (d := .ptr y off) (by rw [hq]; rfl)).ptr_inv
  refine OpRes.value (l := .ret 0) h (u := a.eval x) ?_ hp rfl (by simp only [RepF]; exact ⟨b, o2, e1, e2, e3⟩)
  unfold execOp
  simp only [ho, e1]
  rfl

end
end Go.Pe

namespace Go.Pe
section
variable {P : Program} {g : G} {w : World} {a : Act} {s s' : St} {S : Nat → Nat → Prop}

theorem optAll_map {α : Type} {f : PV → Option α} : ∀ {l : List PV} {ds : List α}, optAll (l.map f) = some ds → ds.length = l.length ∧ ∀ (j : Nat) (d : α), ds[j]? = some d → ∃ p, l[j]? = some p ∧ f p = some d
  | [], ds, h => by
    simp only [List.map_nil, optAll, Option.some.injEq] at h
    subst h
    exact ⟨rfl, by simp⟩
  | p :: l, ds, h => by
    simp only [List.map_cons] at h
    cases hp : f p with
    | none => rw [hp] at h; simp [optAll] at h
    | some d0 =>
      rw [hp] at h
      simp only [optAll, Option.map_eq_some_iff] at h
      obtain ⟨r, hr, rfl⟩ := h
      obtain ⟨i1, i2⟩ := optAll_map hr
      refine ⟨by simp [i1], ?_⟩
      intro j d hj
      cases j with
      | zero => simp at hj; subst hj; exact ⟨p, rfl, hp⟩
      | succ j => exact i2 j d (by simpa using hj)

theorem load_cells {l : Nat → Loc} {b off n : Nat} {c : Array Value} {e : TypeId} {fr : Nat × Nat} {cs : List PV} (hb : w.heap[b]? = some (.cells c e fr)) (hc : CellsRep P g w l c cs) {v : PV} (hv : cellsAgg cs off n = some v)
    {t : TypeId} (ht : aggOk P t (some n) = true) : ∃ val, (loadVar t ⟨b, off, none⟩).run P w = .ok val w ∧ v.plain = true ∧ ∀ l, RepF P g w l v val := by
  unfold cellsAgg at hv
  split at hv
  · rename_i hle
    rw [Option.map_eq_some_iff] at hv
    obtain ⟨ds, hds, rfl⟩ := hv
    obtain ⟨k1, k2⟩ := aggOk_some ht w
    obtain ⟨m1, m2⟩ := optAll_map hds
    have hlen : ((cs.drop off).take n).length = n := by simp; omega
    have hcl : ((c.toList.drop off).take n).length = n := by
      have := hc.1
      simp; omega
    have hl := run_loadCells_list (P := P) w ⟨b, off, none⟩ ((c.toList.drop off).take n) (fun j u hj => by
      rw [Addr.add_lit, cell_of_row w b (off + j) c e fr hb]
      rw [List.getElem?_take] at hj
      split at hj
      · simpa [List.getElem?_drop] using hj
      · simp at hj)
    rw [hcl] at hl
    refine ⟨.agg ((c.toList.drop off).take n).toArray, by simp [loadVar, k1, k2, hl], rfl, fun l0 => ?_⟩
    simp only [RepF]
    have key : ∀ (j : Nat) (d : D), ds[j]? = some d → ∃ u, ((c.toList.drop off).take n)[j]? = some u ∧ u.oneCell' = true ∧ DRep g.stab w d u := by
      intro j d hj
      obtain ⟨p, hp, hpd⟩ := m2 j d hj
      rw [List.getElem?_take] at hp ⊢
      split at hp
      · rename_i hjn
        rw [List.getElem?_drop] at hp
        obtain ⟨u, h1, h2, h3⟩ := hc.2 (off + j) p hp
        rw [if_pos hjn, List.getElem?_drop]
        exact ⟨u, by simpa using h1, h2, h3.toD hpd⟩
      · simp at hp
    refine .agg _ _ (by simp only [List.size_toArray, hcl, m1, hlen]) ?_ ?_
    · intro d hd
      obtain ⟨j, hj⟩ := List.mem_iff_getElem?.1 hd
      obtain ⟨u, _, h2, h3⟩ := key j d hj
      cases hdd : d with
      | agg xs => rw [hdd] at h3; cases h3; simp [Value.oneCell'] at h2
      | _ => rfl
    · intro j d v hj hv
      obtain ⟨u, h1, _, h3⟩ := key j d hj
      rw [List.getElem?_toArray, h1] at hv
      simp only [Option.some.injEq] at hv
      subst hv
      exact h3
  · simp at hv

theorem load_cell {l : Nat → Loc} {b off : Nat} {c : Array Value} {e : TypeId} {fr : Nat × Nat} {cs : List PV} (hb : w.heap[b]? = some (.cells c e fr)) (hc : CellsRep P g w l c cs) {p : PV} (hp : cs[off]? = some p)
    {t : TypeId} (ht : aggOk P t none = true) : ∃ u, c[off]? = some u ∧ (loadVar t ⟨b, off, none⟩).run P w = .ok u w ∧ RepF P g w (l off) p u := by
  obtain ⟨u, h1, h2, h3⟩ := hc.2 off p hp
  obtain ⟨k1, k2⟩ := aggOk_none ht w
  have hcell : w.cell? ⟨b, off, none⟩ = some u := by rw [cell_of_row w b off c e fr hb]; exact h1
  exact ⟨u, h1, by simp [loadVar, k1, hcell], h3⟩

theorem load_elem {b o off : Nat} {x : D} (hone : ∀ c ∈ x.cells, c.isAgg = false) (hx : ∀ (j : Nat) (c : D), x.cells[j]? = some c → ∃ u, w.cell? ⟨b, o + j, none⟩ = some u ∧ g.stab b (o + j) ∧ DRep g.stab w c u)
    {agg : Option Nat} {t : TypeId} (ht : aggOk P t agg = true) {d : D} (hd : elemD x off agg = some d) : ∃ v, (loadVar t ⟨b, o + off, none⟩).run P w = .ok v w ∧ DRep g.stab w d v := by
  cases agg with
  | none =>
    simp only [elemD, partD] at hd
    obtain ⟨u, h1, _, h3⟩ := hx off d hd
    obtain ⟨k1, k2⟩ := aggOk_none ht w
    exact ⟨u, by simp [loadVar, k1, h1], h3⟩
  | some n =>
    obtain ⟨k1, k2⟩ := aggOk_some ht w
    have part : off + n ≤ x.cells.length → ∃ v, (loadVar t ⟨b, o + off, none⟩).run P w = .ok v w ∧ DRep g.stab w (.agg ((x.cells.drop off).take n)) v := by
      intro hle
      have hval : ∀ j, j < n → ∃ u c, x.cells[off + j]? = some c ∧ w.cell? ⟨b, o + (off + j), none⟩ = some u ∧ DRep g.stab w c u := by
        intro j hj
        have hlt : off + j < x.cells.length := by omega
        obtain ⟨u, h1, _, h3⟩ := hx (off + j) _ (List.getElem?_eq_getElem hlt)
        exact ⟨u, _, List.getElem?_eq_getElem hlt, h1, h3⟩
      have hl := run_loadCells (P := P) w ⟨b, o + off, none⟩ n (fun j => (w.cell? ⟨b, o + (off + j), none⟩).getD undef) (fun j hj => by
        obtain ⟨u, c, _, h2, _⟩ := hval j hj
        rw [Addr.add_lit, show o + off + j = o + (off + j) by omega, h2]
        rfl)
      refine ⟨_, by simp [loadVar, k1, k2, hl]; rfl, ?_⟩
      refine .agg _ _ (by simp; omega) ?_ ?_
      · intro c hc
        exact hone c (List.mem_of_mem_drop (List.mem_of_mem_take hc))
      · intro j c v hj hv
        rw [List.getElem?_take] at hj
        split at hj
        · rename_i hjn
          rw [List.getElem?_drop] at hj
          obtain ⟨u, c', h1, h2, h3⟩ := hval j hjn
          rw [hj] at h1
          simp only [Option.some.injEq] at h1
          subst h1
          simp [hjn, h2] at hv
          subst hv
          exact h3
        · simp at hj
    simp only [elemD] at hd
    split at hd
    · rename_i hc
      simp only [Bool.and_eq_true, decide_eq_true_eq] at hc
      obtain ⟨⟨rfl, h2⟩, h3⟩ := hc
      simp only [Option.some.injEq] at hd
      subst hd
      cases x with
      | agg cs =>
        have h3' : cs.length = n := h3
        obtain ⟨v, q1, q2⟩ := part (by simp only [D.cells]; omega)
        refine ⟨v, q1, ?_⟩
        simpa [D.cells, List.take_of_length_le (Nat.le_of_eq h3')] using q2
      | _ => simp [D.isAgg] at h2
    · simp only [partD] at hd
      split at hd
      · rename_i hle
        simp only [Option.some.injEq] at hd
        subst hd
        exact part hle
      · simp at hd

theorem run_loadAt {t : TypeId} {ad : Addr} : (Instr.loadAt t (.pointer (some ad))).run P w = (loadVar t ad).run P w := by
  simp [Instr.loadAt, Instr.sureAddr]

theorem cellTake_cases {m : Bool} {cs cs' : List PV} {off : Nat} {v : PV} (h : cellTake m cs off = some (v, cs')) :
    (cs' = cs ∧ ∃ p, cs[off]? = some p ∧ p.cp = some v) ∨ ∃ e xs, cs[off]? = some (.own e xs) ∧ v = .own e xs ∧ cs' = cs.set off .dead := by
  unfold cellTake at h
  split at h
  · rename_i e xs hx
    simp only [Option.some.injEq, Prod.mk.injEq] at h
    exact .inr ⟨e, xs, hx, h.1.symm, h.2.symm⟩
  · rename_i p _ hp
    rw [Option.map_eq_some_iff] at h
    obtain ⟨q, hq, he⟩ := h
    simp only [Prod.mk.injEq] at he
    obtain ⟨rfl, rfl⟩ := he
    exact .inl ⟨rfl, p, hp, hq⟩
  · simp at h

theorem op_ld_plain {o : Oper} {t : TypeId} {x : Operand} {ad : Addr} {v : PV} {val : Value} (h : Inv P g w a s) (ho : o.op = .load t x) (hx : a.eval x = .pointer (some ad)) (hl : (loadVar t ad).run P w = .ok val w) (hv : v.plain = true) (hr : RepF P g w (.ret 0) v val)
    (hp : s.put o.dst v = some s') : OpRes P g w a o s' := by
  refine OpRes.value (l := .ret 0) h (u := val) ?_ hp hv hr
  unfold execOp
  simp only [ho, hx, run_loadAt, Sem.run_bind, hl, Result.andThen_ok, Sem.run_pure]

theorem box_slot (h : Inv P g w a s) {t : Nat} {cs : List PV} (ht : s.tm[t]? = some (.ibox cs)) : ∃ b c e, a.va t = .pointer (some ⟨b, 0, none⟩) ∧ g.κ b = some (.tm t 0) ∧ g.tip b = 0 ∧ w.heap[b]? = some (.cells c e (0, 0)) ∧ CellsRep P g w (fun j => .tm t (j + 1)) c cs := by
  obtain ⟨b, c, e, h1, h2, h3, h4, h5, h6⟩ := h.slot t _ ht
  exact ⟨b, c, e, h1, h2, h3, h4, h5, h6⟩

theorem CellsRep.dead {l : Nat → Loc} {c : Array Value} {cs : List PV} (h : CellsRep P g w l c cs) {off : Nat} (hoff : off < cs.length) {M : Loc → Prop} {g' : G} {w' : World} (hc : Chg M g w g' w') (hM : ∀ j, j ≠ off → ¬ M (l j)) :
    CellsRep P g' w' l c (cs.set off .dead) := by
  refine ⟨by simp [h.1], fun j p hj => ?_⟩
  by_cases e : j = off
  · subst e
    simp only [List.getElem?_set_self hoff, Option.some.injEq] at hj
    subst hj
    obtain ⟨u, h1, h2, _⟩ := h.2 j _ (List.getElem?_eq_getElem hoff)
    exact ⟨u, h1, h2, by simp only [RepF]⟩
  · rw [List.getElem?_set_ne (Ne.symm e)] at hj
    obtain ⟨u, h1, h2, h3⟩ := h.2 j p hj
    exact ⟨u, h1, h2, h3.mono hc (hM j e)⟩

theorem Inv.take_cell (h : Inv P g w a s) {t d off e : Nat} {xs : List D} {cs : List PV} (ht : s.tm[t]? = some (.ibox cs)) (hcell : cs[off]? = some (.own e xs)) {u : Value} (hu : RepF P g w (.tm t (off + 1)) (.own e xs) u)
    (hp : St.put { s with tm := s.tm.set t (.ibox (cs.set off .dead)) } (some d) (.own e xs) = some s') :
    Inv P (g.relab (mvLoc (.tm t (off + 1)) (.tm d 0))) w (a.put (some d) u) s' := by
  obtain ⟨rfl, hne⟩ := put_some hp
  simp only at hne
  have hlt : t < s.tm.length := (List.getElem?_eq_some_iff.1 ht).1
  have htd : t ≠ d := fun e => by
    subst e
    exact hne _ (List.getElem?_set_self hlt)
  have hoff := (List.getElem?_eq_some_iff.1 hcell).1
  refine ⟨by simp [Act.put, h.size], ?_, h.heap.mv (by intro id; exact ⟨fun e => (by cases e), fun j e => (by cases e)⟩)⟩
  intro n p hn
  simp only at hn
  by_cases ed : n = d
  · subst ed
    have hl : n < s.tm.length := by
      have := (List.getElem?_eq_some_iff.1 hn).1
      simpa using this
    rw [List.getElem?_set_self (by simpa using hl)] at hn
    simp only [Option.some.injEq] at hn
    subst hn
    rw [va_put_same (by rw [h.size]; exact hl)]
    exact hu.mv
  · rw [List.getElem?_set_ne (Ne.symm ed)] at hn
    rw [va_put_other ed]
    by_cases et : n = t
    · subst et
      rw [List.getElem?_set_self hlt] at hn
      simp only [Option.some.injEq] at hn
      subst hn
      obtain ⟨b, c, e', h1, h2, h3, h4, h5⟩ := box_slot h ht
      have hch := Chg.mv (g := g) (w := w) (.tm n (off + 1)) (.tm d 0)
      obtain ⟨k1, k2⟩ := h5.dead hoff hch (fun j hj e => hj (by injection e; omega))
      exact ⟨b, c, e', h1, by simp [G.relab, h2, mvLoc], h3, h4, k1, k2⟩
    · rw [List.getElem?_set_ne (Ne.symm et)] at hn
      refine (h.slot n p hn).mono (Chg.mv _ _) (fun j hj => et (by injection hj)) ?_
      intro t' cs' ht'
      by_cases e1 : t' = t
      · subst e1
        exact ⟨⟨_, by rw [List.getElem?_set_ne (Ne.symm htd), List.getElem?_set_self hlt]⟩, va_put_other htd⟩
      · have e2 : t' ≠ d := fun e2 => hne cs' (by rw [← e2, List.getElem?_set_ne (Ne.symm e1)]; exact ht')
        exact ⟨⟨cs', by rw [List.getElem?_set_ne (Ne.symm e2), List.getElem?_set_ne (Ne.symm e1)]; exact ht'⟩, va_put_other e2⟩

theorem Inv.take_heap (h : Inv P g w a s) {id d off e : Nat} {xs : List D} {cs : List PV} (ht : s.hp[id]? = some (.box cs)) (hcell : cs[off]? = some (.own e xs)) {u : Value} (hu : RepF P g w (.cell id off) (.own e xs) u)
    (hp : St.put { s with hp := s.hp.set id (.box (cs.set off .dead)) } (some d) (.own e xs) = some s') :
    Inv P (g.relab (mvLoc (.cell id off) (.tm d 0))) w (a.put (some d) u) s' := by
  obtain ⟨rfl, hne⟩ := put_some hp
  simp only at hne
  have hlt : id < s.hp.length := (List.getElem?_eq_some_iff.1 ht).1
  have hoff := (List.getElem?_eq_some_iff.1 hcell).1
  have hch := Chg.mv (g := g) (w := w) (.cell id off) (.tm d 0)
  refine ⟨by simp [Act.put, h.size], ?_, ⟨by simpa [G.relab] using h.heap.nb, ?_, lies_set h.heap.lies ht (fun j u hj => by
    by_cases e : j = off
    · subst e; rw [List.getElem?_set_self hoff] at hj; simp at hj
    · rwa [List.getElem?_set_ne (Ne.symm e)] at hj) (fun _ _ => rfl) (fun _ _ _ _ h => h)⟩⟩
  · intro n p hn
    simp only at hn
    by_cases ed : n = d
    · subst ed
      have hl : n < s.tm.length := by
        have := (List.getElem?_eq_some_iff.1 hn).1
        simpa using this
      rw [List.getElem?_set_self hl] at hn
      simp only [Option.some.injEq] at hn
      subst hn
      rw [va_put_same (by rw [h.size]; exact hl)]
      exact hu.mv
    · rw [List.getElem?_set_ne (Ne.symm ed)] at hn
      rw [va_put_other ed]
      refine (h.slot n p hn).mono hch (fun j hj => by cases hj) ?_
      intro t' cs' ht'
      have e2 : t' ≠ d := fun e2 => hne cs' (e2 ▸ ht')
      exact ⟨⟨cs', by rw [List.getElem?_set_ne (Ne.symm e2)]; exact ht'⟩, va_put_other e2⟩
  · intro id' en hen
    simp only at hen
    by_cases ei : id' = id
    · subst ei
      rw [List.getElem?_set_self hlt] at hen
      simp only [Option.some.injEq] at hen
      subst hen
      obtain ⟨c, e', zz, hz, h1, h2, h3, h4⟩ := h.heap.ent id' _ ht
      exact ⟨c, e', zz, hz, by simp [G.relab, h1, mvLoc], h2, h3, h4.dead hoff hch (fun j hj e => hj (by injection e))⟩
    · rw [List.getElem?_set_ne (Ne.symm ei)] at hen
      refine (h.heap.ent id' en hen).mono hch (by rw [h.heap.nb]; exact (List.getElem?_eq_some_iff.1 hen).1) ⟨fun e => by (cases e), fun j e => ei (by injection e)⟩

end
end Go.Pe

namespace Go.Pe
section
variable {P : Program} {g : G} {w : World} {a : Act} {s s' : St} {S : Nat → Nat → Prop}

theorem op_ld_box {o : Oper} {t : TypeId} {x : Operand} {m : Bool} {agg : Option Nat} {n b off : Nat} {c : Array Value} {e : TypeId} {cs : List PV} {v : PV} {s1 : St} (h : Inv P g w a s) (ho : o.op = .load t x) (ht : aggOk P t agg = true)
    (hn : s.tm[n]? = some (.ibox cs)) (hx : a.eval x = .pointer (some ⟨b, off, none⟩)) (hb : w.heap[b]? = some (.cells c e (0, 0))) (hc : CellsRep P g w (fun j => .tm n (j + 1)) c cs)
    (hl : (match agg with | some k => (cellsAgg cs off k).map (·, s) | none => (cellTake m cs off).map fun (v, cs') => (v, { s with tm := s.tm.set n (.ibox cs') })) = some (v, s1))
    {d : Nat} (hd : o.dst = some d) (hp : s1.put o.dst v = some s') : OpRes P g w a o s' := by
  cases agg with
  | some k =>
    simp only [Option.map_eq_some_iff] at hl
    obtain ⟨q, hq, he⟩ := hl
    simp only [Prod.mk.injEq] at he
    obtain ⟨rfl, rfl⟩ := he
    obtain ⟨val, q1, q2, q3⟩ := load_cells (P := P) hb hc hq ht
    exact op_ld_plain h ho hx q1 q2 (q3 _) hp
  | none =>
    simp only [Option.map_eq_some_iff] at hl
    obtain ⟨⟨q, cs'⟩, hq, he⟩ := hl
    simp only [Prod.mk.injEq] at he
    obtain ⟨rfl, rfl⟩ := he
    rcases cellTake_cases hq with ⟨rfl, p, hp1, hp2⟩ | ⟨el, xs, hp1, rfl, rfl⟩
    · obtain ⟨u, _, q1, q2⟩ := load_cell (P := P) hb hc hp1 ht
      obtain ⟨k1, k2⟩ := q2.cp hp2
      have hs : ({ s with tm := s.tm.set n (.ibox cs') } : St) = s := by
        have : s.tm.set n (.ibox cs') = s.tm := by
          obtain ⟨hlt, hg⟩ := List.getElem?_eq_some_iff.1 hn
          rw [← hg]
          exact List.set_getElem_self hlt
        rw [this]
      rw [hs] at hp
      exact op_ld_plain h ho hx q1 k1 (RepF.move (fun _ _ h => h) (Nat.le_refl _) (fun _ _ => rfl) k1 k2) hp
    · obtain ⟨u, _, q1, q2⟩ := load_cell (P := P) hb hc hp1 ht
      rw [hd] at hp
      have k := h.take_cell hn hp1 q2 hp
      refine ⟨_, u, _, w, ?_, .inl rfl, by rw [hd]; exact k, (Chg.mv (g := g) (w := w) _ _).mono (mine_of_eq (mine_tm n (off + 1)))⟩
      unfold execOp
      simp only [ho, hx, run_loadAt, Sem.run_bind, q1, Result.andThen_ok, Sem.run_pure]

theorem op_ld {o : Oper} {t : TypeId} {x : Operand} {x' : X} {m : Bool} {agg : Option Nat} {v : PV} {s1 : St} (h : Inv P g w a s) (ho : o.op = .load t x) (hx : xOk x x' = true) (ht : aggOk P t agg = true)
    (hl : s.load m agg (s.x x') x'.self = some (v, s1)) {d : Nat} (hd : o.dst = some d) (hp : s1.put o.dst v = some s') : OpRes P g w a o s' := by
  have slot : ∀ p, s.x x' = p → p.toD = none → (∀ f c, p ≠ .fn f c) → p ≠ .nilsl → p ≠ .dead → ∃ n, x = .tmp n ∧ x' = .t n ∧ s.tm[n]? = some p ∧ RepS P g w s.tm a.va n p (a.va n) := fun p hp h1 h2 h3 h4 => x_slot h hx hp h1 h2 h3 h4
  unfold St.load at hl
  split at hl
  · rename_i cs t' hv hs
    obtain ⟨n, rfl, rfl, k1, k2⟩ := slot _ hv rfl (by simp) (by simp) (by simp)
    simp only [X.self, Option.some.injEq] at hs
    subst hs
    obtain ⟨b, c, e, h1, h2, h3, h4, h5⟩ := box_slot h k1
    exact op_ld_box (off := 0) h ho ht k1 h1 h4 h5 hl hd hp
  · rename_i t' off hv
    obtain ⟨n, rfl, rfl, k1, k2⟩ := slot _ hv rfl (by simp) (by simp) (by simp)
    obtain ⟨b, cs, e1, e2, e3⟩ := k2
    rw [getD_some e3] at hl
    simp only at hl
    obtain ⟨b', c, e, h1, h2, h3, h4, h5⟩ := box_slot h e3
    rw [e2] at h1
    simp only [Value.pointer.injEq, Option.some.injEq, Addr.mk.injEq, and_true] at h1
    subst h1
    exact op_ld_box h ho ht e3 e1 h4 h5 hl hd hp
  · rename_i id off hv
    obtain ⟨n, rfl, rfl, k1, k2⟩ := slot _ hv rfl (by simp) (by simp) (by simp)
    have k3 : RepF P g w (.tm n 0) (.ptr id off) (a.va n) := k2
    simp only [RepF] at k3
    have hx' : a.eval (.tmp n) = .pointer (some ⟨g.bb id, off, none⟩) := k3.2
    split at hl
    · rename_i cs hcs
      obtain ⟨c, e, zz, hz, h1, h2, h3, h4⟩ := h.heap.ent id _ hcs
      cases agg with
      | some k =>
        simp only [Option.map_eq_some_iff] at hl
        obtain ⟨q, hq, he⟩ := hl
        simp only [Prod.mk.injEq] at he
        obtain ⟨rfl, rfl⟩ := he
        obtain ⟨val, q1, q2, q3⟩ := load_cells (P := P) h3 h4 hq ht
        exact op_ld_plain h ho hx' q1 q2 (q3 _) hp
      | none =>
        simp only [Option.map_eq_some_iff] at hl
        obtain ⟨⟨q, cs'⟩, hq, he⟩ := hl
        simp only [Prod.mk.injEq] at he
        obtain ⟨rfl, rfl⟩ := he
        rcases cellTake_cases hq with ⟨rfl, p, hp1, hp2⟩ | ⟨el, xs, hp1, rfl, rfl⟩
        · obtain ⟨u, _, q1, q2⟩ := load_cell (P := P) h3 h4 hp1 ht
          obtain ⟨m1, m2⟩ := q2.cp hp2
          have hs : ({ s with hp := s.hp.set id (.box cs') } : St) = s := by
            have : s.hp.set id (.box cs') = s.hp := by
              obtain ⟨hlt, hg⟩ := List.getElem?_eq_some_iff.1 hcs
              rw [← hg]
              exact List.set_getElem_self hlt
            rw [this]
          rw [hs] at hp
          exact op_ld_plain h ho hx' q1 m1 (RepF.move (fun _ _ h => h) (Nat.le_refl _) (fun _ _ => rfl) m1 m2) hp
        · obtain ⟨u, _, q1, q2⟩ := load_cell (P := P) h3 h4 hp1 ht
          rw [hd] at hp
          have k := h.take_heap hcs hp1 q2 hp
          refine ⟨_, u, _, w, ?_, .inl rfl, by rw [hd]; exact k, (Chg.mv (g := g) (w := w) _ _).mono (mine_of_eq (mine_cell id off))⟩
          unfold execOp
          simp only [ho, hx', run_loadAt, Sem.run_bind, q1, Result.andThen_ok, Sem.run_pure]
    · simp at hl
  · rename_i y off hv
    obtain ⟨n, rfl, rfl, k1, k2⟩ := slot _ hv rfl (by simp) (by simp) (by simp)
    have k3 : RepF P g w (.tm n 0) (.eptr y off) (a.va n) := k2
    simp only [RepF] at k3
    obtain ⟨b, p, e1, e2, e3⟩ := k3
    rw [Option.map_eq_some_iff] at hl
    obtain ⟨q, hq, he⟩ := hl
    simp only [Prod.mk.injEq] at he
    obtain ⟨rfl, rfl⟩ := he
    obtain ⟨val, q1, q2⟩ := load_elem (P := P) e2 e3 ht hq
    exact op_ld_plain h ho (show a.eval (.tmp n) = _ from e1) q1 rfl (by simp only [RepF]; exact q2) hp
  · rename_i id i off hv
    obtain ⟨n, rfl, rfl, k1, k2⟩ := slot _ hv rfl (by simp) (by simp) (by simp)
    have k3 : RepF P g w (.tm n 0) (.rptr id i off) (a.va n) := k2
    simp only [RepF] at k3
  · simp at hl


theorem Chg.setRow {M : Loc → Prop} {b : Nat} {l : Loc} {c c' : Array Value} {e : TypeId} {z : Nat × Nat} (hb : w.heap[b]? = some (.cells c e z)) (hk : g.κ b = some l) (hM : M l) (ht : g.tip b = 0) : Chg M g w g (w.setRow b c') where
  os := rfl
  tape := rfl
  output := rfl
  size := by simp [World.setRow]
  stab := fun b' i u hc hs => by
    by_cases e1 : b' = b
    · subst e1
      rcases hs with hs | hs
      · rw [hk] at hs; simp at hs
      · rw [ht] at hs; omega
    · refine ⟨?_, hs⟩
      simp only [World.cell?, setRow_other w b b' c' e1]
      exact hc
  own := fun b' l' hlt hl hn => ⟨hl, rfl, setRow_other w b b' c' fun e1 => hn (by subst e1; rw [hk] at hl; injection hl with hl; rw [← hl]; exact hM)⟩
  free := fun b' hlt hl => ⟨hl, setRow_other w b b' c' fun e1 => by subst e1; rw [hk] at hl; simp at hl⟩
  nb := Nat.le_refl _
  bb := fun _ _ => rfl

theorem run_storeCells_z {b o : Nat} {t : TypeId} {fz : Nat × Nat} : ∀ (vs : List Value) (i : Nat) (cur : Array Value) (w : World), w.heap[b]? = some (.cells cur t fz) → FrzOk cur fz → o + i + vs.length ≤ cur.size → (∀ v ∈ vs, v.oneCell' = true) →
    (storeCells ⟨b, o, none⟩ vs i).run P w = .ok () (w.setRow b (cur.toList.take (o + i) ++ vs ++ cur.toList.drop (o + i + vs.length)).toArray)
  | [], i, cur, w, hg, _, _, _ => by
    simp only [storeCells, List.append_nil, List.length_nil, Nat.add_zero, List.take_append_drop, Array.toArray_toList]
    rw [setRow_self w b cur t fz hg]
    rfl
  | v :: rest, i, cur, w, hg, hz, hl, h1 => by
    have hi : o + i < cur.size := by simp only [List.length_cons] at hl; omega
    have hfro : w.frozen? ⟨b, o + i, none⟩ = false := by
      obtain ⟨lo, hi'⟩ := fz
      simp only [World.frozen?, hg, Bool.and_eq_false_iff, decide_eq_false_iff_not]
      rcases hz with hz | hz
      · right; simp only at hz; omega
      · left; simp only at hz; omega
    have hst : (store ((⟨b, o, none⟩ : Addr).add i) v).run P w = .ok () (w.setRow b (cur.setIfInBounds (o + i) v)) := by
      rw [Addr.add_lit, run_store P w _ v _ (h1 v (by simp)), show w.cell? ⟨b, o + i, none⟩ = some cur[o + i] by simp [World.cell?, hg, hi]]
      simp [hfro, setCell_eq_setRow w b (o + i) cur t fz v hg]
    have ih := run_storeCells_z (b := b) (o := o) (t := t) (fz := fz) rest (i + 1) (cur.setIfInBounds (o + i) v) (w.setRow b (cur.setIfInBounds (o + i) v)) (setRow_heap w b cur _ t _ hg) (by unfold FrzOk at *; simpa using hz) (by simp only [List.length_cons, Array.size_setIfInBounds] at hl ⊢; omega) (fun x hx => h1 x (by simp [hx]))
    simp only [storeCells, Sem.run_bind, hst, Result.andThen_ok, ih, setRow_setRow]
    congr 3
    have e := list_seg_step cur.toList (o + i) v rest (by simp only [List.length_cons] at hl ⊢; simp; omega)
    simpa [Nat.add_assoc] using e
theorem run_store_row {b off : Nat} {c : Array Value} {e : TypeId} {z : Nat × Nat} {vs : List Value} (hb : w.heap[b]? = some (.cells c e z)) (hfz : FrzOk c z) (hle : off + vs.length ≤ c.size) (h1 : ∀ v ∈ vs, v.oneCell' = true) :
    (storeCells ⟨b, off, none⟩ vs).run P w = .ok () (w.setRow b (c.toList.take off ++ vs ++ c.toList.drop (off + vs.length)).toArray) := by
  have := run_storeCells_z (P := P) (b := b) (o := off) (t := e) (fz := z) vs 0 c w hb hfz (by simpa using hle) h1
  simpa using this

theorem setCells_length : ∀ (ds : List D) (cs : List PV) (off : Nat), (setCells cs off ds).length = cs.length
  | [], cs, off => rfl
  | d :: ds, cs, off => by rw [setCells, setCells_length ds]; simp

theorem setCells_get : ∀ (ds : List D) (cs : List PV) (off p : Nat), off + ds.length ≤ cs.length → (setCells cs off ds)[p]? = if off ≤ p ∧ p < off + ds.length then (ds[p - off]?).map PV.d else cs[p]?
  | [], cs, off, p, _ => by
    rw [if_neg (by simp)]
    rfl
  | d :: ds, cs, off, p, h => by
    simp only [List.length_cons] at h
    rw [setCells, setCells_get ds _ _ _ (by simp; omega)]
    simp only [List.length_cons]
    by_cases h1 : off ≤ p ∧ p < off + (ds.length + 1)
    · rw [if_pos h1]
      by_cases h2 : p = off
      · subst h2
        rw [if_neg (by omega)]
        simp [show p < cs.length by omega]
      · rw [if_pos (by omega)]
        obtain ⟨q, hq⟩ : ∃ q, p - off = q + 1 := ⟨p - off - 1, by omega⟩
        rw [hq, List.getElem?_cons_succ]
        congr 2
        omega
    · rw [if_neg h1, if_neg (by omega), List.getElem?_set_ne (by omega)]

theorem mid_get {c : Array Value} {vs : List Value} {off j : Nat} (hle : off + vs.length ≤ c.size) : (c.toList.take off ++ vs ++ c.toList.drop (off + vs.length)).toArray[j]? = if off ≤ j ∧ j < off + vs.length then vs[j - off]? else c[j]? := by
  have h1 : (c.toList.take off).length = off := by simp; omega
  rw [List.getElem?_toArray]
  by_cases ha : j < off
  · rw [if_neg (by omega), List.append_assoc, List.getElem?_append_left (by omega), List.getElem?_take, if_pos ha]
    simp
  · by_cases hb : j < off + vs.length
    · rw [if_pos (by omega), List.append_assoc, List.getElem?_append_right (by omega), List.getElem?_append_left (by omega), h1]
    · rw [if_neg (by omega), List.getElem?_append_right (by simp; omega)]
      simp only [List.length_append, h1, List.getElem?_drop]
      rw [show off + vs.length + (j - (off + vs.length)) = j by omega]
      simp

theorem CellsRep.store {l : Nat → Loc} {c : Array Value} {cs : List PV} (h : CellsRep P g w l c cs) {agg : Option Nat} {off : Nat} {v : PV} {val : Value} {cs' : List PV} (hs : storeIn agg cs off v = some cs')
    {M : Loc → Prop} {g' : G} {w' : World} (hc : Chg M g w g' w') (hM : ∀ j, ¬ (off ≤ j ∧ j < off + val.cells.size) → ¬ M (l j))
    (hv : (∃ ds, v = .d (.agg ds) ∧ agg = some ds.length ∧ DRep g'.stab w' (.agg ds) val) ∨ (agg = none ∧ val.oneCell' = true ∧ RepF P g' w' (l off) v val)) :
    off + val.cells.size ≤ c.size ∧ CellsRep P g' w' l (c.toList.take off ++ val.cells.toList ++ c.toList.drop (off + val.cells.toList.length)).toArray cs' := by
  rcases hv with ⟨ds, rfl, rfl, hr⟩ | ⟨rfl, h1, hr⟩
  · simp only [storeIn] at hs
    split at hs
    · rename_i hle
      simp only [Bool.and_eq_true, decide_eq_true_eq, true_and] at hle
      simp only [Option.some.injEq] at hs
      subst hs
      obtain ⟨vs, rfl, e2, e3, e4⟩ := hr.agg_inv
      simp only [Value.cells] at hM ⊢
      have hle' : off + vs.size ≤ c.size := by have := h.1; rw [e2]; omega
      have hl' : vs.toList.length = ds.length := by simpa using e2
      refine ⟨hle', ?_, ?_⟩
      · rw [setCells_length]
        have := h.1
        simp
        omega
      · intro j p hj
        rw [mid_get (by simpa using hle'), hl']
        rw [setCells_get _ _ _ _ hle] at hj
        split at hj
        · rename_i hin
          rw [if_pos hin]
          rw [Option.map_eq_some_iff] at hj
          obtain ⟨d, hd, rfl⟩ := hj
          have hlt := (List.getElem?_eq_some_iff.1 hd).1
          have hu : vs[j - off]? = some vs[j - off] := Array.getElem?_eq_getElem (by omega)
          have hrep := e4 _ d _ hd hu
          exact ⟨vs[j - off], by simp [hu], hrep.oneCell (e3 d (List.mem_of_getElem? hd)), by simp only [RepF]; exact hrep⟩
        · rename_i hin
          rw [if_neg hin]
          obtain ⟨u, k1, k2, k3⟩ := h.2 j p hj
          exact ⟨u, k1, k2, k3.mono hc (hM j (by rw [e2]; exact hin))⟩
    · simp at hs
  · simp only [storeIn] at hs
    split at hs
    · rename_i hlt
      simp only [Bool.and_eq_true, decide_eq_true_eq] at hlt
      replace hlt := hlt.1
      simp only [Option.some.injEq] at hs
      subst hs
      have hcells : val.cells = #[val] := by cases val <;> first | rfl | (simp [Value.oneCell'] at h1)
      rw [hcells] at hM ⊢
      simp only [List.size_toArray, List.length_cons, List.length_nil, Nat.zero_add] at hM ⊢
      refine ⟨by have := h.1; omega, ?_, ?_⟩
      · rw [List.length_set]
        have := h.1
        simp
        omega
      · intro j p hj
        have hm := mid_get (c := c) (vs := [val]) (off := off) (j := j) (by have := h.1; simp; omega)
        simp only [List.length_cons, List.length_nil, Nat.zero_add] at hm
        rw [hm]
        by_cases ej : j = off
        · subst ej
          rw [List.getElem?_set_self hlt] at hj
          simp only [Option.some.injEq] at hj
          subst hj
          rw [if_pos (by omega)]
          exact ⟨val, by simp, h1, hr⟩
        · rw [List.getElem?_set_ne (Ne.symm ej)] at hj
          rw [if_neg (by omega)]
          obtain ⟨u, k1, k2, k3⟩ := h.2 j p hj
          exact ⟨u, k1, k2, k3.mono hc (hM j (by omega))⟩
    · simp at hs

end
end Go.Pe

namespace Go.Pe
section
variable {P : Program} {g : G} {w : World} {a : Act} {s s' : St} {S : Nat → Nat → Prop}

theorem RepS.dead' {ts : List PV} {va : Nat → Value} {t : Nat} {v : Value} : RepS P g w ts va t .dead v := by simp only [RepS, RepF]

theorem Inv.kill (h : Inv P g w a s) {n : Nat} (hn : ∀ cs, s.tm[n]? ≠ some (.ibox cs)) : Inv P g w a { s with tm := s.tm.set n .dead } := by
  refine ⟨by simp [h.size], ?_, h.heap⟩
  intro t p ht
  simp only at ht
  by_cases e : t = n
  · subst e
    by_cases hl : t < s.tm.length
    · rw [List.getElem?_set_self hl] at ht
      simp only [Option.some.injEq] at ht
      subst ht
      exact RepS.dead'
    · rw [List.getElem?_eq_none (by simpa using hl)] at ht
      simp at ht
  · rw [List.getElem?_set_ne (Ne.symm e)] at ht
    refine (h.slot t p ht).mono (Chg.refl (fun _ => False) g w) (fun _ hf => hf) ?_
    intro t' cs ht'
    have e1 : t' ≠ n := fun e1 => hn cs (e1 ▸ ht')
    exact ⟨⟨cs, by simp only; rw [List.getElem?_set_ne (Ne.symm e1)]; exact ht'⟩, rfl⟩

def Idle (s : St) (N : Loc → Prop) : Prop := (∀ u p j, s.tm[u]? = some p → p ≠ .dead → ¬ N (.tm u j)) ∧ ∀ id, ¬ N (.bx id) ∧ ∀ j, ¬ N (.cell id j)

theorem Inv.chg_idle {g' : G} {w' : World} {N : Loc → Prop} (h : Inv P g w a s) (hN : Idle s N) (hc : Chg N g w g' w') (hn : g'.nb = g.nb) : Inv P g' w' a s := by
  refine ⟨h.size, ?_, h.heap.mono hc hN.2 hn⟩
  intro t p ht
  by_cases e : p = .dead
  · subst e; exact RepS.dead'
  · exact (h.slot t p ht).mono hc (fun j => hN.1 t p j ht e) (fun t' cs ht' => ⟨⟨cs, ht'⟩, rfl⟩)

theorem take_any (h : Inv P g w a s) {x : Operand} {x' : X} (hx : xOk x x' = true) {v : PV} {s1 : St} (ht : s.tk true x' = some (v, s1)) (l : Loc) (hl : Mine l) :
    ∃ g' N, Idle s1 N ∧ (∀ l, N l → Mine l) ∧ Chg N g w g' w ∧ g'.nb = g.nb ∧ Inv P g w a s1 ∧ RepF P g' w l v (a.eval x) ∧ s1.hp = s.hp ∧ (∀ (t : Nat) (cs : List PV), s1.tm[t]? = some (PV.ibox cs) ↔ s.tm[t]? = some (PV.ibox cs)) ∧ g'.bb = g.bb := by
  rcases tk_cases ht with ⟨rfl, hq⟩ | ⟨n, e, xs, rfl, hn, rfl, rfl⟩
  · obtain ⟨k1, k2⟩ := x_cp h hx hq
    exact ⟨g, fun _ => False, ⟨fun _ _ _ _ _ hf => hf, fun _ => ⟨fun hf => hf, fun _ hf => hf⟩⟩, fun _ hf => hf.elim, Chg.refl _ _ _, rfl, h, k2 l, rfl, fun _ _ => Iff.rfl, rfl⟩
  · have hxn : x = .tmp n := by
      cases x <;> simp [xOk] at hx
      subst hx
      rfl
    subst hxn
    obtain ⟨h1, h2⟩ := h.slot' hn (by simp)
    have hown : RepF P g w (.tm n 0) (.own e xs) (a.va n) := h2
    have hlt : n < s.tm.length := (List.getElem?_eq_some_iff.1 h1).1
    refine ⟨g.relab (mvLoc (.tm n 0) l), fun x => x = .tm n 0, ⟨?_, ?_⟩, mine_of_eq (mine_tm n 0), Chg.mv _ _, rfl, h.kill (fun cs hc => by rw [h1] at hc; simp at hc), hown.mv, rfl, ?_, rfl⟩
    · intro u p j hu hp he
      injection he with he1 he2
      subst he1
      simp only at hu
      rw [List.getElem?_set_self hlt] at hu
      simp only [Option.some.injEq] at hu
      exact hp hu.symm
    · intro id
      exact ⟨fun e => by (cases e), fun j e => by (cases e)⟩
    · intro t cs
      simp only
      by_cases e1 : t = n
      · subst e1
        rw [List.getElem?_set_self hlt, h1]
        simp
      · rw [List.getElem?_set_ne (Ne.symm e1)]

theorem Inv.set_box {g' : G} {w' : World} {N : Loc → Prop} (h : Inv P g w a s) (hN : Idle s N) {t b : Nat} {cs cs' : List PV} {c' : Array Value} {e : TypeId} (ht : s.tm[t]? = some (.ibox cs)) (hva : a.va t = .pointer (some ⟨b, 0, none⟩))
    (hc : Chg (fun l => N l ∨ ∃ j, l = .tm t j) g w g' w') (hn : g'.nb = g.nb) (hk : g'.κ b = some (.tm t 0)) (htip : g'.tip b = 0) (hb : w'.heap[b]? = some (.cells c' e (0, 0))) (hr : CellsRep P g' w' (fun j => .tm t (j + 1)) c' cs') :
    Inv P g' w' a { s with tm := s.tm.set t (.ibox cs') } := by
  have hlt : t < s.tm.length := (List.getElem?_eq_some_iff.1 ht).1
  refine ⟨by simp [h.size], ?_, h.heap.mono hc (fun id => ⟨fun hm => ?_, fun j hm => ?_⟩) hn⟩
  · intro u p hu
    simp only at hu
    by_cases e1 : u = t
    · subst e1
      rw [List.getElem?_set_self hlt] at hu
      simp only [Option.some.injEq] at hu
      subst hu
      exact ⟨b, c', e, hva, hk, htip, hb, hr.1, hr.2⟩
    · rw [List.getElem?_set_ne (Ne.symm e1)] at hu
      by_cases e2 : p = .dead
      · subst e2; exact RepS.dead'
      · refine (h.slot u p hu).mono hc (fun j hm => ?_) ?_
        · rcases hm with hm | ⟨j', hm⟩
          · exact hN.1 u p j hu e2 hm
          · injection hm with hm; exact e1 hm
        · intro t' cs'' ht'
          simp only
          by_cases e3 : t' = t
          · subst e3
            exact ⟨⟨cs', List.getElem?_set_self hlt⟩, trivial⟩
          · exact ⟨⟨cs'', by rw [List.getElem?_set_ne (Ne.symm e3)]; exact ht'⟩, trivial⟩
  · rcases hm with hm | ⟨j, hm⟩
    · exact (hN.2 id).1 hm
    · cases hm
  · rcases hm with hm | ⟨j', hm⟩
    · exact (hN.2 id).2 j hm
    · cases hm

theorem Inv.set_heap {z : Nat × Nat} {g' : G} {w' : World} {N : Loc → Prop} (h : Inv P g w a s) (hN : Idle s N) {id : Nat} {cs cs' : List PV} {c' : Array Value} {e : TypeId} (ht : s.hp[id]? = some (.box cs))
    (hc : Chg (fun l => N l ∨ l = .bx id ∨ ∃ j, l = .cell id j) g w g' w') (hn : g'.nb = g.nb) (hk : g'.κ (g'.bb id) = some (.bx id)) (htip : g'.tip (g'.bb id) = 0) (hb : w'.heap[g'.bb id]? = some (.cells c' e z)) (hfz : FrzOk c' z) (hr : CellsRep P g' w' (fun j => .cell id j) c' cs')
    (hbn : ∀ (j u : Nat), cs'[j]? = some (PV.bnil u) → cs[j]? = some (PV.bnil u)) (hsh : w'.shape? (g.bb id) = w.shape? (g.bb id)) :
    Inv P g' w' a { s with hp := s.hp.set id (.box cs') } := by
  have hlt : id < s.hp.length := (List.getElem?_eq_some_iff.1 ht).1
  have hidle : ∀ i, i < s.hp.length → i ≠ id → ∀ cs, s.hp[i]? = some (.box cs) → w'.heap[g.bb i]? = w.heap[g.bb i]? := by
    intro i hi hne cs0 hcs
    obtain ⟨c0, e0, z0, hz, k1, _, k3, _⟩ := h.heap.ent i _ hcs
    refine (hc.own _ _ (lt_of_heap k3) k1 fun hm => ?_).2.2
    rcases hm with hm | hm | ⟨j', hm⟩
    · exact (hN.2 i).1 hm
    · injection hm with hm; exact hne hm
    · cases hm
  refine ⟨h.size, ?_, ⟨by simp [hn, h.heap.nb], ?_, ?_⟩⟩
  · intro u p hu
    by_cases e2 : p = .dead
    · subst e2; exact RepS.dead'
    · refine (h.slot u p hu).mono hc (fun j hm => ?_) (fun t' cs ht' => ⟨⟨cs, ht'⟩, rfl⟩)
      rcases hm with hm | hm | ⟨j', hm⟩
      · exact hN.1 u p j hu e2 hm
      · cases hm
      · cases hm
  · intro id' en hen
    simp only at hen
    by_cases e1 : id' = id
    · subst e1
      rw [List.getElem?_set_self hlt] at hen
      simp only [Option.some.injEq] at hen
      subst hen
      exact ⟨c', e, _, hfz, hk, htip, hb, hr⟩
    · rw [List.getElem?_set_ne (Ne.symm e1)] at hen
      refine (h.heap.ent id' en hen).mono hc (by rw [h.heap.nb]; exact (List.getElem?_eq_some_iff.1 hen).1) ⟨fun hm => ?_, fun j hm => ?_⟩
      · rcases hm with hm | hm | ⟨j', hm⟩
        · exact (hN.2 id').1 hm
        · injection hm with hm; exact e1 hm
        · cases hm
      · rcases hm with hm | hm | ⟨j', hm⟩
        · exact (hN.2 id').2 j hm
        · cases hm
        · injection hm with hm; exact e1 hm
  · intro i cs2 hi
    simp only at hi
    have hil : i < s.hp.length := by
      have := (List.getElem?_eq_some_iff.1 hi).1
      simpa using this
    rw [hc.bb i (by rw [h.heap.nb]; exact hil)]
    by_cases e1 : i = id
    · subst e1
      rw [List.getElem?_set_self hlt] at hi
      simp only [Option.some.injEq, Ent.box.injEq] at hi
      subst hi
      exact LiesAll.of (h.heap.lies i cs ht) (fun e n hs => by rw [hsh]; exact hs) hbn
    · rw [List.getElem?_set_ne (Ne.symm e1)] at hi
      exact LiesAll.of (h.heap.lies i cs2 hi) (fun e n hs => shape_of_block (hidle i hil e1 cs2 hi) hs) (fun _ _ h => h)

theorem storeIn_bn {agg : Option Nat} {cs cs' : List PV} {off : Nat} {v : PV} (h : storeIn agg cs off v = some cs') : ∀ (j u : Nat), cs'[j]? = some (PV.bnil u) → cs[j]? = some (PV.bnil u) := by
  have key : ∀ (ds : List D) (cs : List PV) (off : Nat) (j u : Nat), (setCells cs off ds)[j]? = some (PV.bnil u) → cs[j]? = some (PV.bnil u) := by
    intro ds
    induction ds with
    | nil => intro cs off j u h; exact h
    | cons d r ih =>
      intro cs off j u h
      rw [setCells] at h
      have := ih _ _ j u h
      rw [List.getElem?_set] at this
      split at this
      · split at this <;> simp at this
      · exact this
  unfold storeIn at h
  split at h
  · split at h
    · split at h
      · simp only [Option.some.injEq] at h
        subst h
        exact key _ _ _
      · simp at h
    · simp at h
  · split at h
    · rename_i hc
      simp only [Option.some.injEq] at h
      subst h
      intro j u hj
      rw [List.getElem?_set] at hj
      split at hj
      · split at hj
        · simp only [Option.some.injEq] at hj
          subst hj
          simp [PV.one] at hc
        · simp at hj
      · exact hj
    · simp at h
theorem shape_setRow {b : Nat} {c c' : Array Value} {e : TypeId} {fr : Nat × Nat} (hb : w.heap[b]? = some (.cells c e fr)) (hs : c'.size = c.size) : (w.setRow b c').shape? b = w.shape? b := by
  simp only [World.shape?, setRow_heap w b c c' e fr hb, hb, hs]
theorem store_size {c : Array Value} {l : List Value} {off : Nat} (h : off + l.length ≤ c.size) : (c.toList.take off ++ l ++ c.toList.drop (off + l.length)).toArray.size = c.size := by
  simp only [List.size_toArray, List.length_append, List.length_take, List.length_drop, Array.length_toList]
  omega

theorem Chg.or_left {M N : Loc → Prop} {g' : G} {w' : World} (h : Chg M g w g' w') : Chg (fun l => M l ∨ N l) g w g' w' := h.mono fun _ hm => .inl hm
theorem Chg.or_right {M N : Loc → Prop} {g' : G} {w' : World} (h : Chg N g w g' w') : Chg (fun l => M l ∨ N l) g w g' w' := h.mono fun _ hm => .inr hm

theorem store_val {t : TypeId} {agg : Option Nat} (ht : aggOk P t agg = true) {cs cs' : List PV} {off : Nat} {v : PV} {val : Value} {l : Loc} (hs : storeIn agg cs off v = some cs') (hr : RepF P g w l v val) (hone : agg = none → val.oneCell' = true) :
    ((∃ ds, v = .d (.agg ds) ∧ agg = some ds.length ∧ DRep g.stab w (.agg ds) val) ∨ (agg = none ∧ val.oneCell' = true)) ∧ (∀ u ∈ val.cells.toList, u.oneCell' = true) ∧ (sizeOf t).run P w = .ok val.cells.size w := by
  cases agg with
  | some n =>
    obtain ⟨k1, k2⟩ := aggOk_some ht w
    simp only [storeIn] at hs
    split at hs
    · rename_i ds
      split at hs
      · rename_i hc
        simp only [Bool.and_eq_true, decide_eq_true_eq] at hc
        simp only [RepF] at hr
        obtain ⟨vs, rfl, e2, e3, e4⟩ := hr.agg_inv
        refine ⟨.inl ⟨ds, rfl, by rw [hc.1], hr⟩, ?_, by rw [k2, show (Value.agg vs).cells.size = n from e2.trans hc.1]⟩
        intro u hu
        obtain ⟨j, hj⟩ := List.mem_iff_getElem?.1 hu
        have hj' : vs[j]? = some u := by simpa [Value.cells] using hj
        have hlt : j < ds.length := by rw [← e2]; exact (Array.getElem?_eq_some_iff.1 hj').1
        exact (e4 j _ u (List.getElem?_eq_getElem hlt) hj').oneCell (e3 _ (List.getElem_mem hlt))
      · simp at hs
    · simp at hs
  | none =>
    obtain ⟨k1, k2⟩ := aggOk_none ht w
    have h1 := hone rfl
    have hcells : val.cells = #[val] := by cases val <;> first | rfl | (simp [Value.oneCell'] at h1)
    refine ⟨.inr ⟨rfl, h1⟩, ?_, by rw [hcells]; exact k2⟩
    intro u hu
    rw [hcells] at hu
    simp at hu
    rw [hu]
    exact h1

theorem mine_sub {N : Loc → Prop} {t : Nat} (hN : ∀ l, N l → Mine l) : ∀ l, (N l ∨ ∃ j, l = .tm t j) → Mine l := fun l hl => by
  rcases hl with hl | ⟨j, rfl⟩
  · exact hN l hl
  · exact mine_tm t j

theorem op_sto_box {o : Oper} {t : TypeId} {x y : Operand} {agg : Option Nat} {n b off : Nat} {c : Array Value} {e : TypeId} {cs cs' : List PV} {v : PV} {s1 : St} {g' : G} {N : Loc → Prop}
    (ho : o.op = .store t x y) (ht : aggOk P t agg = true) (h1 : Inv P g w a s1) (hN : Idle s1 N) (hNm : ∀ l, N l → Mine l) (hg : Chg N g w g' w) (hnb : g'.nb = g.nb) (hr : RepF P g' w (.tm n (off + 1)) v (a.eval y)) (hone : agg = none → (a.eval y).oneCell' = true)
    (hn : s1.tm[n]? = some (.ibox cs)) (hva : a.va n = .pointer (some ⟨b, 0, none⟩)) (hx : a.eval x = .pointer (some ⟨b, off, none⟩)) (hs : storeIn agg cs off v = some cs') (hd : o.dst = none) :
    OpRes P g w a o { s1 with tm := s1.tm.set n (.ibox cs') } := by
  obtain ⟨b', c, e, e1, e2, e3, e4, e5⟩ := box_slot h1 hn
  rw [hva] at e1
  simp only [Value.pointer.injEq, Option.some.injEq, Addr.mk.injEq, and_true] at e1
  subst e1
  have hM0 : ∀ j, ¬ N (.tm n j) := fun j => hN.1 n _ j hn (by simp)
  obtain ⟨q1, q2, q3⟩ := hg.own b _ (lt_of_heap e4) e2 (hM0 0)
  have e5' : CellsRep P g' w (fun j => .tm n (j + 1)) c cs := ⟨e5.1, fun j p hj => let ⟨u, k1, k2, k3⟩ := e5.2 j p hj; ⟨u, k1, k2, k3.mono hg (hM0 _)⟩⟩
  obtain ⟨m1, m2, m3⟩ := store_val (P := P) ht hs hr hone
  have hset : ∀ c', Chg (fun l => ∃ j, l = .tm n j) g' w g' (w.setRow b c') := fun c' => Chg.setRow e4 q1 ⟨0, rfl⟩ (q2.trans e3)
  obtain ⟨r1, r2⟩ := e5'.store hs (val := a.eval y) (M := fun l => l = .tm n 0) (g' := g') (w' := w.setRow b (c.toList.take off ++ (a.eval y).cells.toList ++ c.toList.drop (off + (a.eval y).cells.toList.length)).toArray)
    (Chg.setRow e4 q1 rfl (q2.trans e3)) (fun j _ hm => by injection hm; omega) (by
      rcases m1 with ⟨ds, hv, ha, hdr⟩ | ⟨ha, h1c⟩
      · exact .inl ⟨ds, hv, ha, hdr.mono (Chg.setRow (M := fun l => l = .tm n 0) e4 q1 rfl (q2.trans e3)).stab⟩
      · exact .inr ⟨ha, h1c, hr.mono (Chg.setRow (M := fun l => l = .tm n 0) e4 q1 rfl (q2.trans e3)) (fun hm => by injection hm; omega)⟩)
  have hch : Chg (fun l => N l ∨ ∃ j, l = .tm n j) g w g' (w.setRow b (c.toList.take off ++ (a.eval y).cells.toList ++ c.toList.drop (off + (a.eval y).cells.toList.length)).toArray) := hg.or_left.trans (hset _).or_right
  refine ⟨.skip, undef, g', _, ?_, .inr ⟨rfl, rfl⟩, ?_, hch.mono (mine_sub hNm)⟩
  · have hrun := run_store_row (P := P) e4 (.inl rfl) (by simpa using r1) m2
    unfold execOp
    simp [ho, hx, Instr.storeAt, Instr.sureAddr, storeVar, m3, hrun]
  · rw [hd]
    exact h1.set_box hN hn hva hch hnb q1 (q2.trans e3) (setRow_heap w b c _ e _ e4) r2

theorem op_sto_heap {o : Oper} {t : TypeId} {x y : Operand} {agg : Option Nat} {id off : Nat} {cs cs' : List PV} {v : PV} {s1 : St} {g' : G} {N : Loc → Prop}
    (ho : o.op = .store t x y) (ht : aggOk P t agg = true) (h1 : Inv P g w a s1) (hN : Idle s1 N) (hNm : ∀ l, N l → Mine l) (hg : Chg N g w g' w) (hnb : g'.nb = g.nb) (hbb : g'.bb = g.bb) (hr : RepF P g' w (.cell id off) v (a.eval y)) (hone : agg = none → (a.eval y).oneCell' = true)
    (hn : s1.hp[id]? = some (.box cs)) (hx : a.eval x = .pointer (some ⟨g.bb id, off, none⟩)) (hs : storeIn agg cs off v = some cs') (hd : o.dst = none) :
    OpRes P g w a o { s1 with hp := s1.hp.set id (.box cs') } := by
  obtain ⟨c, e, zz, hz, e2, e3, e4, e5⟩ := h1.heap.ent id _ hn
  obtain ⟨q1, q2, q3⟩ := hg.own _ _ (lt_of_heap e4) e2 (hN.2 id).1
  have e5' : CellsRep P g' w (fun j => .cell id j) c cs := ⟨e5.1, fun j p hj => let ⟨u, k1, k2, k3⟩ := e5.2 j p hj; ⟨u, k1, k2, k3.mono hg ((hN.2 id).2 j)⟩⟩
  obtain ⟨m1, m2, m3⟩ := store_val (P := P) ht hs hr hone
  have hset : ∀ c', Chg (fun l => l = .bx id) g' w g' (w.setRow (g.bb id) c') := fun c' => Chg.setRow e4 q1 rfl (q2.trans e3)
  obtain ⟨r1, r2⟩ := e5'.store hs (val := a.eval y) (hset (c.toList.take off ++ (a.eval y).cells.toList ++ c.toList.drop (off + (a.eval y).cells.toList.length)).toArray)
    (fun j _ hm => by cases hm) (by
      rcases m1 with ⟨ds, hv, ha, hdr⟩ | ⟨ha, h1c⟩
      · exact .inl ⟨ds, hv, ha, hdr.mono (hset _).stab⟩
      · exact .inr ⟨ha, h1c, hr.mono (hset _) (fun hm => by cases hm)⟩)
  have hch : Chg (fun l => N l ∨ l = .bx id ∨ ∃ j, l = .cell id j) g w g' (w.setRow (g.bb id) (c.toList.take off ++ (a.eval y).cells.toList ++ c.toList.drop (off + (a.eval y).cells.toList.length)).toArray) :=
    hg.or_left.trans ((hset _).mono fun l hl => .inr (.inl hl))
  refine ⟨.skip, undef, g', _, ?_, .inr ⟨rfl, rfl⟩, ?_, hch.mono ?_⟩
  · have hrun := run_store_row (P := P) e4 hz (by simpa using r1) m2
    unfold execOp
    simp [ho, hx, Instr.storeAt, Instr.sureAddr, storeVar, m3, hrun]
  · rw [hd]
    exact h1.set_heap hN hn hch hnb (by rw [hbb]; exact q1) (by rw [hbb]; exact q2.trans e3) (by rw [hbb]; exact setRow_heap w _ c _ e _ e4) (by unfold FrzOk at *; rw [store_size (by simpa using r1)]; exact hz) r2 (storeIn_bn hs) (shape_setRow e4 (store_size (by simpa using r1)))
  · intro l hl
    rcases hl with hl | rfl | ⟨j, rfl⟩
    · exact hNm l hl
    · exact mine_bx id
    · exact mine_cell id j

end
end Go.Pe

namespace Go.Pe
section
variable {P : Program} {g : G} {w : World} {a : Act} {s s' : St} {S : Nat → Nat → Prop}

theorem op_sto {o : Oper} {t : TypeId} {x y : Operand} {x' y' : X} {agg : Option Nat} {v : PV} {s1 : St} (h : Inv P g w a s) (ho : o.op = .store t x y) (ht : aggOk P t agg = true) (hx : xOk x x' = true) (hy : xOk y y' = true)
    (hk : s.tk true y' = some (v, s1)) (hs : s1.store agg (s1.x x') x'.self v = some s') (hone : agg = none → (a.eval y).oneCell' = true) (hd : o.dst = none) : OpRes P g w a o s' := by
  have h1 : Inv P g w a s1 := by
    obtain ⟨_, _, _, _, _, _, k, _⟩ := take_any h hy hk (.ret 0) (fun _ e => by cases e)
    exact k
  have slot : ∀ p, s1.x x' = p → p.toD = none → (∀ f c, p ≠ .fn f c) → p ≠ .nilsl → p ≠ .dead → ∃ n, x = .tmp n ∧ x' = .t n ∧ s1.tm[n]? = some p ∧ RepS P g w s1.tm a.va n p (a.va n) := fun p hp h1' h2 h3 h4 => x_slot h1 hx hp h1' h2 h3 h4
  unfold St.store at hs
  split at hs
  · rename_i cs t' hv hse
    obtain ⟨n, rfl, rfl, k1, k2⟩ := slot _ hv rfl (by simp) (by simp) (by simp)
    simp only [X.self, Option.some.injEq] at hse
    subst hse
    rw [Option.map_eq_some_iff] at hs
    obtain ⟨cs', hcs, rfl⟩ := hs
    obtain ⟨b, c, e, e1, _⟩ := box_slot h1 k1
    obtain ⟨g', N, i1, i2, i3, i4, i5, i6, i7, i8, i9⟩ := take_any h hy hk (.tm n (0 + 1)) (mine_tm _ _)
    exact op_sto_box (off := 0) (e := e) (c := c) ho ht h1 i1 i2 i3 i4 i6 hone k1 e1 e1 hcs hd
  · rename_i t' off hv
    obtain ⟨n, rfl, rfl, k1, k2⟩ := slot _ hv rfl (by simp) (by simp) (by simp)
    obtain ⟨b, cs0, e1, e2, e3⟩ := k2
    rw [getD_some e3] at hs
    simp only [Option.map_eq_some_iff] at hs
    obtain ⟨cs', hcs, rfl⟩ := hs
    obtain ⟨b', c, e, _⟩ := box_slot h1 e3
    obtain ⟨g', N, i1, i2, i3, i4, i5, i6, i7, i8, i9⟩ := take_any h hy hk (.tm t' (off + 1)) (mine_tm _ _)
    exact op_sto_box (e := e) (c := c) ho ht h1 i1 i2 i3 i4 i6 hone e3 e2 e1 hcs hd
  · rename_i id off hv
    obtain ⟨n, rfl, rfl, k1, k2⟩ := slot _ hv rfl (by simp) (by simp) (by simp)
    have k3 : RepF P g w (.tm n 0) (.ptr id off) (a.va n) := k2
    simp only [RepF] at k3
    split at hs
    · rename_i cs hcs0
      rw [Option.map_eq_some_iff] at hs
      obtain ⟨cs', hcs, rfl⟩ := hs
      obtain ⟨g', N, i1, i2, i3, i4, i5, i6, i7, i8, i9⟩ := take_any h hy hk (.cell id off) (mine_cell _ _)
      exact op_sto_heap ho ht h1 i1 i2 i3 i4 i9 i6 hone hcs0 k3.2 hcs hd
    · simp at hs
  · rename_i id i off hv
    obtain ⟨n, rfl, rfl, k1, k2⟩ := slot _ hv rfl (by simp) (by simp) (by simp)
    have k3 : RepF P g w (.tm n 0) (.rptr id i off) (a.va n) := k2
    simp only [RepF] at k3
  · simp at hs


def convOk (P : Program) (src dst : TypeId) : Cv → Bool
  | .int k => (match P.underlying src with | some (.int _) => true | _ => false) && (match P.underlying dst with | some (.int k') => k == k' | _ => false)
  | .same => (match P.underlying src with | some .string => true | _ => false) && (match P.underlying dst with | some .string => true | _ => false)
  | .toBytes => (match P.underlying src with | some .string => true | _ => false) && (match P.underlying dst with | some (.slice e) => (match P.underlying e with | some (.int .u8) => true | _ => false) && (match P.info? e with | some i => i.size == 1 | none => false) | _ => false)
  | .toStr => (match P.underlying src with | some (.slice e) => (match P.underlying e with | some (.int .u8) => true | _ => false) | _ => false) && (match P.underlying dst with | some .string => true | _ => false)
  | .rune => (match P.underlying src with | some (.int _) => true | _ => false) && (match P.underlying dst with | some .string => true | _ => false)

theorem Chg.drew (M : Loc → Prop) : Chg M g w g w.drew :=
  ⟨rfl, rfl, rfl, Nat.le_refl _, fun _ _ _ h k => ⟨h, k⟩, fun _ _ _ h _ => ⟨h, rfl, rfl⟩, fun _ _ h => ⟨h, rfl⟩, Nat.le_refl _, fun _ _ => rfl⟩

theorem OpRes.chg {g' : G} {w' : World} {o : Oper} {v : PV} {u : Value} {l : Loc} (h : Inv P g w a s) (hr : (execOp a.eval o).run P w = .ok (.value u) w') (hc : Chg (fun _ => False) g w g' w') (hn : g'.nb = g.nb)
    (hp : s.put o.dst v = some s') (hpl : v.plain = true) (hv : RepF P g' w' l v u) : OpRes P g w a o s' := by
  refine ⟨_, u, g', w', hr, .inl rfl, ?_, hc.mono fun _ hf => hf.elim⟩
  have h' : Inv P g' w' a s := h.chg_idle ⟨fun _ _ _ _ _ hf => hf, fun _ => ⟨fun hf => hf, fun _ hf => hf⟩⟩ hc hn
  exact h'.put hp hpl hv

theorem DRep_bytes {b o cap : Nat} {l : List UInt8} (hc : l.length ≤ cap) (hm : ∀ i, (hi : i < l.length) → w.cell? ⟨b, o + i, none⟩ = some (.int .u8 (l[i].toNat : Int)) ∧ S b (o + i)) :
    DRep S w (.sl (l.map fun x => .int .u8 x.toNat)) (.slice (some ⟨b, o, none⟩) l.length cap) := by
  have hl : (l.map fun x => D.int .u8 x.toNat).length = l.length := by simp
  rw [← hl]
  have one : ∀ (i : Nat) (x : D) (j : Nat) (c : D), (l.map fun x => D.int .u8 x.toNat)[i]? = some x → x.cells[j]? = some c → j = 0 ∧ ∃ hi : i < l.length, c = .int .u8 (l[i].toNat : Int) := by
    intro i x j c hi hj
    rw [List.getElem?_map, Option.map_eq_some_iff] at hi
    obtain ⟨u, hu, rfl⟩ := hi
    obtain ⟨hlt, rfl⟩ := List.getElem?_eq_some_iff.1 hu
    cases j with
    | zero => simp [D.cells] at hj; exact ⟨rfl, hlt, hj.symm⟩
    | succ j => simp [D.cells] at hj
  refine .sl _ b o 1 cap (fun i j => .int .u8 ((l.getD i 0).toNat : Int)) (by rw [hl]; exact hc) ?_ ?_ ?_ ?_
  · intro x hx
    obtain ⟨y, _, rfl⟩ := List.mem_map.1 hx
    rfl
  · intro x hx c hcx
    obtain ⟨y, _, rfl⟩ := List.mem_map.1 hx
    simp [D.cells] at hcx
    subst hcx
    rfl
  · intro i x j c hi hj
    obtain ⟨rfl, hlt, rfl⟩ := one i x j c hi hj
    obtain ⟨k1, k2⟩ := hm i hlt
    simp only [Nat.mul_one, Nat.add_zero]
    refine ⟨?_, k2⟩
    rw [k1]
    simp [List.getD, List.getElem?_eq_getElem hlt]
  · intro i x j c hi hj
    obtain ⟨rfl, hlt, rfl⟩ := one i x j c hi hj
    simp only [List.getD, List.getElem?_eq_getElem hlt, Option.getD_some]
    exact .int _ _

theorem optAll_list {α β : Type} {f : α → Option β} : ∀ {l : List α} {ds : List β}, optAll (l.map f) = some ds → ds.length = l.length ∧ ∀ (j : Nat) (x : α), l[j]? = some x → ∃ d, ds[j]? = some d ∧ f x = some d
  | [], ds, h => by
    simp only [List.map_nil, optAll, Option.some.injEq] at h
    subst h
    exact ⟨rfl, by simp⟩
  | p :: l, ds, h => by
    simp only [List.map_cons] at h
    cases hp : f p with
    | none => rw [hp] at h; simp [optAll] at h
    | some d0 =>
      rw [hp] at h
      simp only [optAll, Option.map_eq_some_iff] at h
      obtain ⟨r, hr, rfl⟩ := h
      obtain ⟨i1, i2⟩ := optAll_list hr
      refine ⟨by simp [i1], ?_⟩
      intro j x hj
      cases j with
      | zero => simp at hj; subst hj; exact ⟨d0, rfl, hp⟩
      | succ j => exact i2 j x (by simpa using hj)

theorem asByte_some {x : D} {b : UInt8} (h : asByte x = some b) : ∃ n, x = .int .u8 n ∧ b = UInt8.ofNat n.toNat := by
  unfold asByte at h
  split at h
  · rename_i n
    simp only [Option.some.injEq] at h
    exact ⟨n, rfl, h.symm⟩
  · simp at h

theorem op_conv {o : Oper} {src dst : TypeId} {x : Operand} {x' : X} {c : Cv} {q : PV} (h : Inv P g w a s) (ho : o.op = .convert src dst x) (hk : convOk P src dst c = true) (hx : xOk x x' = true) (hq : convD c (s.x x') = some q)
    (hp : s.put o.dst q = some s') : OpRes P g w a o s' := by
  have fin : ∀ v, (convert src dst (a.eval x)).run P w = .ok v w → q.plain = true → RepF P g w (.ret 0) q v → OpRes P g w a o s' := by
    intro v e1 e2 e3
    refine OpRes.value (l := .ret 0) h (u := v) ?_ hp e2 e3
    unfold execOp
    simp only [ho, Sem.run_bind, e1, Result.andThen_ok, Sem.run_pure]
  unfold convD at hq
  split at hq
  · rename_i k k' n hd
    have e1 := (x_toD h hx hd).int_inv
    simp only [Option.some.injEq] at hq
    subst hq
    simp only [convOk, Bool.and_eq_true] at hk
    obtain ⟨h1, h2⟩ := hk
    split at h1
    · rename_i ks hu
      split at h2
      · rename_i kd hv
        simp only [beq_iff_eq] at h2
        subst h2
        exact fin (.int k (k.wrap n)) (by rw [e1]; simp [convert, run_underlying hu, run_underlying hv, Conv.intToInt]) rfl (by simp only [RepF]; exact .int _ _)
      · simp at h2
    · simp at h1
  · rename_i b hd
    have e1 := (x_toD h hx hd).str_inv
    simp only [Option.some.injEq] at hq
    subst hq
    simp only [convOk, Bool.and_eq_true] at hk
    obtain ⟨h1, h2⟩ := hk
    split at h1
    · rename_i hu
      split at h2
      · rename_i hv
        exact fin (.string b) (by rw [e1]; simp [convert, run_underlying hu, run_underlying hv]) rfl (by simp only [RepF]; exact .str _)
      · simp at h2
    · simp at h1
  · rename_i b hd
    have e1 := (x_toD h hx hd).str_inv
    simp only [Option.some.injEq] at hq
    subst hq
    simp only [convOk, Bool.and_eq_true] at hk
    obtain ⟨h1, h2⟩ := hk
    split at h1
    · rename_i hu
      split at h2
      · rename_i e hv
        simp only [Bool.and_eq_true] at h2
        obtain ⟨h2, h3⟩ := h2
        split at h2
        · rename_i he
          have hrun := run_bytes_of_string (P := P) w src dst e b hu hv he
          refine OpRes.chg (l := .ret 0) h (u := .slice (some ⟨w.heap.size, 0, none⟩) b.size (grownCap w b.size 0 e))
            (w' := w.drew.alloc (.cells (bytesRow b (grownCap w b.size 0 e)) e ((bytesRow b (grownCap w b.size 0 e)).size, (bytesRow b (grownCap w b.size 0 e)).size + 1)))
            (g' := g.own w.heap.size none 0) ?_ ((Chg.drew _).trans (Chg.new (w := w.drew) _ _ none 0)) rfl hp rfl ?_
          · unfold execOp
            simp only [ho, e1, Sem.run_bind, hrun, Result.andThen_ok, Sem.run_pure]
          · simp only [RepF]
            have hbl : b.data.toList.length = b.size := by simp
            rw [← hbl]
            refine DRep_bytes (by rw [hbl]; exact grownCap_ge w b.size 0 e) ?_
            intro i hi
            rw [hbl] at hi
            refine ⟨?_, .inl (by simp [G.own])⟩
            have hblk := heap_alloc_new w.drew (.cells (bytesRow b (grownCap w b.size 0 e)) e ((bytesRow b (grownCap w b.size 0 e)).size, (bytesRow b (grownCap w b.size 0 e)).size + 1))
            have hblk' : (w.drew.alloc (.cells (bytesRow b (grownCap w b.size 0 e)) e ((bytesRow b (grownCap w b.size 0 e)).size, (bytesRow b (grownCap w b.size 0 e)).size + 1))).heap[w.heap.size]? = some _ := hblk
            simp only [World.cell?, hbl, Nat.zero_add]
            rw [hblk']
            simp only [Option.isSome_none, Bool.false_eq_true, if_false, bytesRow]
            rw [Array.getElem?_append_left (by simpa using hi)]
            simp
            exact ⟨b.data[i]'hi, Array.getElem?_eq_getElem hi, rfl⟩
        · simp at h2
      · simp at h2
    · simp at h1
  · rename_i xs hd
    have r1 := x_toD h hx hd
    rw [Option.map_eq_some_iff] at hq
    obtain ⟨l, hl, rfl⟩ := hq
    have hl' : optAll (xs.map asByte) = some l := hl
    obtain ⟨m1, m2⟩ := optAll_list hl'
    simp only [convOk, Bool.and_eq_true] at hk
    obtain ⟨h1, h2⟩ := hk
    split at h1
    · rename_i e hu
      split at h1
      · rename_i he
        split at h2
        · rename_i hv
          generalize hav : a.eval x = av at r1
          cases r1 with
          | sl0 ad cap =>
            have hnil : l = [] := List.eq_nil_of_length_eq_zero (by simpa using m1)
            subst hnil
            cases ad with
            | none => exact fin _ (by rw [hav]; exact run_convert_bytes_nil w src e hu he 0 cap dst hv) rfl (by simp only [RepF]; exact .str _)
            | some ad =>
              refine fin (.string ⟨#[]⟩) ?_ rfl (by simp only [RepF]; exact .str _)
              rw [hav]
              simp [convert, run_underlying hu, run_underlying he, run_underlying hv, Conv.bytesToString, loadCells, loadCellsFrom]
              rfl
          | sl _ b o' sz' cap f hc hwd ha hm hr =>
            have hint : ∀ i, (hi : i < xs.length) → ∃ n : Int, xs[i] = .int .u8 n ∧ l[i]? = some (UInt8.ofNat n.toNat) := by
              intro i hi
              obtain ⟨d, q1, q2⟩ := m2 i _ (List.getElem?_eq_getElem hi)
              obtain ⟨n, q3, rfl⟩ := asByte_some q2
              exact ⟨n, q3, q1⟩
            have hrun := run_convert_bytes_arg (P := P) w src e hu he b o' xs.length cap (xs.map fun x => match x with | .int _ n => n | _ => 0) (by simp) (fun i hi => by
              obtain ⟨n, q1, q2⟩ := hint i hi
              have hcell : xs[i].cells[0]? = some (D.int .u8 n) := by rw [q1]; rfl
              have hwid : sz' = 1 := by
                have := hwd xs[i] (List.getElem_mem hi)
                rw [q1] at this
                exact this.symm
              obtain ⟨k1, _⟩ := hm i xs[i] 0 _ (List.getElem?_eq_getElem hi) hcell
              have k2 := (hr i xs[i] 0 _ (List.getElem?_eq_getElem hi) hcell).int_inv
              rw [hwid, Nat.mul_one, Nat.add_zero, k2] at k1
              rw [k1]
              simp [List.getD, List.getElem?_eq_getElem hi, q1]) dst hv
            refine fin _ (by rw [hav]; exact hrun) rfl ?_
            simp only [RepF]
            have hlist : l = (xs.map fun x => match x with | .int _ n => n | _ => 0).map fun n : Int => UInt8.ofNat n.toNat := by
              apply List.ext_getElem?
              intro i
              by_cases hi : i < xs.length
              · obtain ⟨n, q1, q2⟩ := hint i hi
                rw [q2]
                simp [List.getElem?_eq_getElem hi, q1]
              · rw [List.getElem?_eq_none (by omega), List.getElem?_eq_none (by simp; omega)]
            have : strOfNums (xs.map fun x => match x with | .int _ n => n | _ => 0) = ⟨l.toArray⟩ := by
              unfold strOfNums
              rw [hlist]
            rw [this]
            exact .str _
        · simp at h2
      · simp at h1
    · simp at h1
  · rename_i k n hd
    have e1 := (x_toD h hx hd).int_inv
    simp only [Option.some.injEq] at hq
    subst hq
    simp only [convOk, Bool.and_eq_true] at hk
    obtain ⟨h1, h2⟩ := hk
    split at h1
    · rename_i ks hu
      split at h2
      · rename_i hv
        exact fin (.string (Utf8.encode n)) (by rw [e1]; simp [convert, run_underlying hu, run_underlying hv, Conv.intToString]) rfl (by simp only [RepF]; exact .str _)
      · simp at h2
    · simp at h1
  · simp at hq

end
end Go.Pe

namespace Go.Pe
section
variable {P : Program} {g : G} {w : World} {a : Act} {s s' : St} {S : Nat → Nat → Prop}

theorem DRep.flat {ys : List D} {ad : Option Addr} {m c sz : Nat} (h : DRep S w (.sl ys) (.slice ad m c)) (hne : ys ≠ []) (hw : ∀ y ∈ ys, y.width = sz) :
    m = ys.length ∧ ∃ b o us, ad = some ⟨b, o, none⟩ ∧ us.length = ys.length * sz ∧ (∀ j u, us[j]? = some u → w.cell? ⟨b, o + j, none⟩ = some u ∧ S b (o + j)) ∧ Flat S w sz ys us := by
  cases h with
  | sl0 => exact absurd rfl hne
  | sl _ b o sz' cap f hc hwd ha hm hr =>
    refine ⟨rfl, ?_⟩
    obtain ⟨y0, r0, e0⟩ : ∃ y r, ys = y :: r := by
      cases ys with
      | nil => exact absurd rfl hne
      | cons y r => exact ⟨y, r, rfl⟩
    have hsz : sz' = sz := by
      rw [← hwd y0 (by rw [e0]; simp), ← hw y0 (by rw [e0]; simp)]
    subst hsz
    have hget : ∀ p, p < ys.length * sz' → ∃ (x : D) (c : D), ys[p / sz']? = some x ∧ x.cells[p % sz']? = some c := by
      intro p hp
      have hz : 0 < sz' := by
        rcases Nat.eq_zero_or_pos sz' with h0 | h0
        · rw [h0] at hp; simp at hp
        · exact h0
      have h1 : p / sz' < ys.length := (Nat.div_lt_iff_lt_mul hz).2 hp
      have h2 := hwd ys[p / sz'] (List.getElem_mem h1)
      have h3 := Nat.mod_lt p hz
      exact ⟨ys[p / sz'], _, List.getElem?_eq_getElem h1, List.getElem?_eq_getElem (show p % sz' < ys[p / sz'].cells.length from by unfold D.width at h2; omega)⟩
    refine ⟨b, o, (List.range (ys.length * sz')).map fun p => f (p / sz') (p % sz'), rfl, by simp, ?_, ⟨by simp, hwd, ha, ?_⟩⟩
    · intro j u hj
      rw [List.getElem?_map, Option.map_eq_some_iff] at hj
      obtain ⟨p, hp, rfl⟩ := hj
      obtain ⟨hlt, rfl⟩ := List.getElem?_eq_some_iff.1 hp
      simp only [List.length_range] at hlt
      simp only [List.getElem_range]
      obtain ⟨x, cc, q1, q2⟩ := hget j hlt
      have := hm _ _ _ _ q1 q2
      rwa [show o + j / sz' * sz' + j % sz' = o + j by have := Nat.div_add_mod j sz'; rw [Nat.mul_comm] at this; omega] at this
    · intro i x j cc hi hj
      have hil := (List.getElem?_eq_some_iff.1 hi).1
      have hjl : j < sz' := by
        have h2 := hwd x (List.mem_of_getElem? hi)
        have h3 := (List.getElem?_eq_some_iff.1 hj).1
        unfold D.width at h2; omega
      have hp := row_index hil hjl
      refine ⟨f i j, ?_, hr i x j cc hi hj⟩
      rw [List.getElem?_map, List.getElem?_range hp]
      simp only [Option.map_some]
      have hz : 0 < sz' := by omega
      congr 2
      · rw [Nat.mul_comm, Nat.mul_add_div hz, Nat.div_eq_of_lt hjl]; rfl
      · rw [Nat.mul_comm, Nat.mul_add_mod, Nat.mod_eq_of_lt hjl]

theorem Flat.oneCell {sz : Nat} {xs : List D} {us : List Value} (h : Flat S w sz xs us) : ∀ u ∈ us, u.oneCell' = true := by
  intro u hu
  obtain ⟨p, hp⟩ := List.mem_iff_getElem?.1 hu
  have hlt := (List.getElem?_eq_some_iff.1 hp).1
  rw [h.len] at hlt
  have hz : 0 < sz := by
    rcases Nat.eq_zero_or_pos sz with h0 | h0
    · rw [h0] at hlt; simp at hlt
    · exact h0
  have h1 : p / sz < xs.length := (Nat.div_lt_iff_lt_mul hz).2 hlt
  have h2 := h.wid xs[p / sz] (List.getElem_mem h1)
  have h3 := Nat.mod_lt p hz
  have h4 : p % sz < xs[p / sz].cells.length := by unfold D.width at h2; omega
  obtain ⟨v, k1, k2⟩ := h.rep (p / sz) _ (p % sz) _ (List.getElem?_eq_getElem h1) (List.getElem?_eq_getElem h4)
  rw [show p / sz * sz + p % sz = p by have := Nat.div_add_mod p sz; rw [Nat.mul_comm] at this; omega, hp] at k1
  simp only [Option.some.injEq] at k1
  subst k1
  exact k2.oneCell (h.one _ (List.getElem_mem h1) _ (List.getElem_mem h4))

def appOk (P : Program) (t e sz bytes : Nat) : Bool :=
  (match P.underlying t with | some (.slice e') => e' == e | _ => false) && decide (0 < sz) &&
  (match P.info? e with | some i => i.size == sz && i.bytes == bytes && (match i.zero with | some z => z.cells.size == sz | none => false) && decide (0 < bytes) | none => false)

structure AppOk (P : Program) (t e sz bytes : Nat) (i : TypeInfo) (z : Value) : Prop where
  und : P.underlying t = some (.slice e)
  inf : P.info? e = some i
  zero : i.zero = some z
  size : i.size = sz
  bts : i.bytes = bytes
  zs : z.cells.size = sz
  pos : 0 < sz
  bpos : 0 < bytes

theorem appOk_ok {t e sz bytes : Nat} (h : appOk P t e sz bytes = true) : ∃ i z, AppOk P t e sz bytes i z := by
  unfold appOk at h
  simp only [Bool.and_eq_true, decide_eq_true_eq] at h
  obtain ⟨⟨h1, h2⟩, h3⟩ := h
  split at h1
  · rename_i e' hu
    simp only [beq_iff_eq] at h1
    subst h1
    split at h3
    · rename_i i hi
      simp only [Bool.and_eq_true, beq_iff_eq, decide_eq_true_eq] at h3
      obtain ⟨⟨⟨k1, k2⟩, k3⟩, k4⟩ := h3
      split at k3
      · rename_i z hz
        simp only [beq_iff_eq] at k3
        exact ⟨i, z, hu, hi, hz, k1, k2, k3, h2, k4⟩
      · simp at k3
    · simp at h3
  · simp at h1

theorem AppOk.cells {t e sz bytes : Nat} {i : TypeInfo} {z : Value} (h : AppOk P t e sz bytes i z) : P.cellsOf e = sz := by
  simp [Program.cellsOf, h.inf, h.size]

theorem run_append_zero {t e sz bytes : Nat} {i : TypeInfo} {z : Value} (h : AppOk P t e sz bytes i z) (ty : TypeId) (base ax : Option Addr) (n cap c : Nat) (hle : n ≤ cap) :
    (Builtin.append_ #[t, t] ty #[.slice base n cap, .slice ax 0 c]).run P w = .ok (.slice base n cap) w := by
  cases base <;> cases ax <;> simp [Builtin.append_, run_underlying h.und, sizeOf, typeInfo, h.inf, Builtin.lenOf, hle, Builtin.firstCells, loadCells, loadCellsFrom, storeCells]

theorem grown_row {t e sz bytes : Nat} {i : TypeInfo} {z : Value} (h : AppOk P t e sz bytes i z) {n m old : Nat} {us news : List Value} (hl : us.length = n * sz) (hm : news.length = m * sz) (h63 : n + m ≤ maxLen) (ho : old < n + m) :
    (w.drew.alloc (.cells (us.toArray ++ news.toArray ++ Builtin.zeroCells z.cells (grownCap w (n + m) old e - (n + m))) e)).ownsRow 0 e sz
        (.slice (some ⟨w.heap.size, 0, none⟩) (n + m) (grownCap w (n + m) old e)) (n + m) (us ++ news) := by
  have hge := grownCap_ge w (n + m) old e
  have hcm : grownCap w (n + m) old e ≤ maxLen := grownCap_le_maxLen w (n + m) old e h63
  have hlen : (us ++ news).length = (n + m) * sz := by rw [List.length_append, hl, hm, Nat.add_mul]
  refine ⟨hlen, .inr ⟨w.heap.size, _, _, rfl, Nat.zero_le _, heap_alloc_new w.drew _, hge, hcm, ?_, ?_⟩⟩
  · simp only [Array.size_append, List.size_toArray, size_zeroCells, h.zs, hl, hm, ← Nat.add_mul]
    congr 1
    omega
  · simp only [Array.toList_append, List.append_assoc]
    rw [← List.append_assoc, ← hlen]
    exact List.take_left

theorem run_append_any {t e sz bytes : Nat} {i : TypeInfo} {z : Value} (h : AppOk P t e sz bytes i z) (ty : TypeId) {v : Value} {n m c : Nat} {us news : List Value} (hown : w.ownsRow 0 e sz v n us)
    (ad : Addr) (hl : news.length = m * sz) (hnews : ∀ j u, news[j]? = some u → w.cell? (ad.add j) = some u) (h1 : ∀ u ∈ news, u.oneCell' = true) (hm : 0 < m) (hb : (n + m) * bytes ≤ 140737488355328) :
    ∃ v' w', (Builtin.append_ #[t, t] ty #[v, .slice (some ad) m c]).run P w = .ok v' w' ∧ w'.ownsRow 0 e sz v' (n + m) (us ++ news) ∧
      ((∃ b, v.ownBlock = some b ∧ v'.ownBlock = some b ∧ w.grownBy w' (some b)) ∨ (v'.ownBlock = some w.heap.size ∧ ∀ k, k < w.heap.size → w'.heap[k]? = w.heap[k]?) ∧ w.heap.size ≤ w'.heap.size ∧ w'.os = w.os ∧ w'.tape = w.tape ∧ w'.output = w.output) := by
  have hsmall : n + m ≤ 140737488355328 := Nat.le_trans (Nat.le_mul_of_pos_right _ h.bpos) hb
  have h63 : n + m ≤ maxLen := by simp only [maxLen]; omega
  obtain ⟨h_und, h_inf, h_zero, rfl, rfl, h_zs, h_pos, h_bpos⟩ := id h
  rcases hown.2 with ⟨rfl, rfl⟩ | ⟨b, cap, cur, rfl, hbg, hg, hnc, hcm, hcs, htake⟩
  · have hx : us = [] := List.eq_nil_of_length_eq_zero (by simpa using hown.1)
    subst hx
    have hr := run_append_nil (P := P) w t ty e i z h_und h_inf h_zero ad m c news hl hnews (by omega) (by omega) (by have hb := hb; simp only [Nat.zero_add] at hb; omega)
    have hgr := grown_row (w := w) h (n := 0) (m := m) (old := 0) (us := []) (by simp) hl h63 (by omega)
    simp only [Nat.zero_add, List.nil_append, Array.empty_append] at hgr ⊢
    exact ⟨_, _, hr, hgr, .inr ⟨⟨rfl, fun k hk => heap_alloc_old w.drew _ k hk⟩, by simp, rfl, rfl, rfl⟩⟩
  · by_cases hroom : n + m ≤ cap
    · have hfit : n * i.size + news.length ≤ cur.size := by rw [hl, hcs, ← Nat.add_mul]; exact Nat.mul_le_mul_right _ hroom
      have hr := run_append_room (P := P) w t ty e i h_und h_inf b n cap cur hg ad m c news hl hnews h1 hroom hfit
      have hlen : (us ++ news).length = (n + m) * i.size := by rw [List.length_append, hown.1, hl, Nat.add_mul]
      refine ⟨_, _, hr, ⟨hlen, .inr ⟨b, cap, _, rfl, Nat.zero_le _, setRow_heap w b cur _ e _ hg, hroom, hcm, ?_, ?_⟩⟩, .inl ⟨b, rfl, rfl, ⟨rfl, rfl, rfl, by simp, fun k _ hk => setRow_other w b k _ (fun e => hk (by rw [e]))⟩⟩⟩
      · simp only [List.size_toArray, List.length_append, List.length_take, List.length_drop, Array.length_toList]
        omega
      · rw [htake, ← hlen]
        exact List.take_left
    · have holds : ∀ j u, us[j]? = some u → w.cell? ((⟨b, 0, none⟩ : Addr).add j) = some u := hown.cells (g := b) rfl
      have hr := run_append_grow (P := P) w t ty e i z h_und h_inf h_zero ⟨b, 0, none⟩ n cap us hown.1 holds ad m c news hl hnews (by omega) (by omega) (growslice_fits (by omega) hb)
      have hgr := grown_row (w := w) h (n := n) (m := m) (old := cap) hown.1 hl h63 (by omega)
      exact ⟨_, _, hr, hgr, .inr ⟨⟨rfl, fun k hk => heap_alloc_old w.drew _ k hk⟩, by simp, rfl, rfl, rfl⟩⟩

theorem run_append_full {t e sz bytes : Nat} {i : TypeInfo} {z : Value} (h : AppOk P t e sz bytes i z) (ty : TypeId) {ax : Option Addr} {n m c : Nat} {us news : List Value} (hus : us.length = n * sz) (hcells : ∀ j u, us[j]? = some u → ∃ b, ax = some b ∧ w.cell? (b.add j) = some u) (hnil : ax = none → n = 0)
    (ad : Addr) (hl : news.length = m * sz) (hnews : ∀ j u, news[j]? = some u → w.cell? (ad.add j) = some u) (hm : 0 < m) (hb : (n + m) * bytes ≤ 140737488355328) :
    ∃ v' w', (Builtin.append_ #[t, t] ty #[.slice ax n n, .slice (some ad) m c]).run P w = .ok v' w' ∧ w'.ownsRow 0 e sz v' (n + m) (us ++ news) ∧
      v'.ownBlock = some w.heap.size ∧ (∀ k, k < w.heap.size → w'.heap[k]? = w.heap[k]?) ∧ w.heap.size ≤ w'.heap.size ∧ w'.os = w.os ∧ w'.tape = w.tape ∧ w'.output = w.output := by
  have hsmall : n + m ≤ 140737488355328 := Nat.le_trans (Nat.le_mul_of_pos_right _ h.bpos) hb
  have h63 : n + m ≤ maxLen := by simp only [maxLen]; omega
  obtain ⟨h_und, h_inf, h_zero, rfl, rfl, h_zs, h_pos, h_bpos⟩ := id h
  cases ax with
  | none =>
    have hn := hnil rfl
    subst hn
    have hx : us = [] := List.eq_nil_of_length_eq_zero (by simpa using hus)
    subst hx
    have hr := run_append_nil (P := P) w t ty e i z h_und h_inf h_zero ad m c news hl hnews (by omega) (by omega) (by have hb := hb; simp only [Nat.zero_add] at hb; omega)
    have hgr := grown_row (w := w) h (n := 0) (m := m) (old := 0) (us := []) (by simp) hl h63 (by omega)
    simp only [Nat.zero_add, List.nil_append, Array.empty_append] at hgr ⊢
    exact ⟨_, _, hr, hgr, rfl, fun k hk => heap_alloc_old w.drew _ k hk, by simp, rfl, rfl, rfl⟩
  | some b =>
    have holds : ∀ j u, us[j]? = some u → w.cell? (b.add j) = some u := fun j u hj => by
      obtain ⟨b', e1, e2⟩ := hcells j u hj
      injection e1 with e1
      rw [e1]
      exact e2
    have hr := run_append_grow (P := P) w t ty e i z h_und h_inf h_zero b n n us hus holds ad m c news hl hnews (by omega) (by omega) (growslice_fits (by omega) hb)
    have hgr := grown_row (w := w) h (n := n) (m := m) (old := n) hus hl h63 (by omega)
    exact ⟨_, _, hr, hgr, rfl, fun k hk => heap_alloc_old w.drew _ k hk, by simp, rfl, rfl, rfl⟩

end
end Go.Pe

namespace Go.Pe
section
variable {P : Program} {g : G} {w : World} {a : Act} {s s' : St} {S : Nat → Nat → Prop}

theorem idle_none (s : St) : Idle s (fun _ => False) := ⟨fun _ _ _ _ _ hf => hf, fun _ => ⟨fun hf => hf, fun _ hf => hf⟩⟩

theorem OpRes.own {N : Loc → Prop} {g' : G} {w' : World} {o : Oper} {s1 : St} {e : Nat} {zs : List D} {v : Value} {d : Nat} (h1 : Inv P g w a s1) (hN : Idle s1 N) (hNm : ∀ l, N l → Mine l) (hr : (execOp a.eval o).run P w = .ok (.value v) w') (hc : Chg N g w g' w') (hn : g'.nb = g.nb)
    (hv : RepF P g' w' (.tm d 0) (.own e zs) v) (hd : o.dst = some d) (hp : s1.put o.dst (.own e zs) = some s') : OpRes P g w a o s' := by
  refine ⟨_, v, g', w', hr, .inl rfl, ?_, hc.mono hNm⟩
  have h2 := h1.chg_idle hN hc hn
  rw [hd] at hp ⊢
  exact h2.put_chg (Chg.refl (fun _ => False) g' w') (fun _ _ _ hf => hf) h2.heap hp fun _ _ => hv

theorem rowOk_ok {sz bytes : Nat} {xs ys : List D} (h : rowOk sz bytes xs ys = true) : (xs.length + ys.length) * bytes ≤ 140737488355328 ∧ ∀ y ∈ ys, y.width = sz := by
  simp only [rowOk, Bool.and_eq_true, decide_eq_true_eq, List.all_eq_true, beq_iff_eq] at h
  exact h

theorem getElem?_of_take {l us : List Value} {n i : Nat} {u : Value} (h : l.take n = us) (hu : us[i]? = some u) : l[i]? = some u := by
  rw [← h, List.getElem?_take] at hu
  split at hu
  · exact hu
  · simp at hu

theorem Chg.append {l : Loc} {e sz n m : Nat} {v v' : Value} {us news : List Value} {w' : World} {d : Loc} (hown : w.ownsRow 0 e sz v n us) (hk : ∀ b, v.ownBlock = some b → g.κ b = some l ∧ g.tip b = n * sz)
    (hown' : w'.ownsRow 0 e sz v' (n + m) (us ++ news))
    (hcase : (∃ b, v.ownBlock = some b ∧ v'.ownBlock = some b ∧ w.grownBy w' (some b)) ∨ (v'.ownBlock = some w.heap.size ∧ ∀ k, k < w.heap.size → w'.heap[k]? = w.heap[k]?) ∧ w.heap.size ≤ w'.heap.size ∧ w'.os = w.os ∧ w'.tape = w.tape ∧ w'.output = w.output) :
    ∃ b', v'.ownBlock = some b' ∧ Chg (fun x => x = l) g w (g.own b' (some d) ((n + m) * sz)) w' := by
  rcases hcase with ⟨b, e1, e2, hg⟩ | ⟨⟨e2, hheap⟩, hsize, hos, htape, hout⟩
  · refine ⟨b, e2, hg.os, hg.tape, hg.output, hg.size, ?_, ?_, ?_, Nat.le_refl _, fun _ _ => rfl⟩
    · intro b1 i u hc hs
      obtain ⟨k1, k2⟩ := hk b e1
      have hlt : b1 < w.heap.size := World.block_lt_of_cell? w _ hc
      by_cases eb : b1 = b
      · subst eb
        have hi : i < n * sz := by
          rcases hs with hs | hs
          · rw [k1] at hs; simp at hs
          · omega
        rcases hown.2 with ⟨rfl, _⟩ | ⟨b2, cap, cur, rfl, _, q1, q2, q3, q4, q5⟩
        · simp [Value.ownBlock] at e1
        · have : b2 = b1 := by simpa [Value.ownBlock] using e1
          subst this
          rcases hown'.2 with ⟨rfl, _⟩ | ⟨b3, cap', cur', rfl, _, r1, r2, r3, r4, r5⟩
          · simp [Value.ownBlock] at e2
          · have : b3 = b2 := by simpa [Value.ownBlock] using e2
            subst this
            obtain ⟨ui, hus⟩ : ∃ ui, us[i]? = some ui := ⟨_, List.getElem?_eq_getElem (show i < us.length by rw [hown.1]; exact hi)⟩
            have c1 := getElem?_of_take q5 hus
            have c2 := getElem?_of_take (i := i) (u := ui) r5 (by rw [List.getElem?_append_left (by rw [hown.1]; exact hi)]; exact hus)
            have hcu : w.cell? ⟨b3, i, none⟩ = some ui := by simp only [World.cell?, q1]; simpa using c1
            rw [hcu] at hc
            simp only [Option.some.injEq] at hc
            subst hc
            refine ⟨by simp only [World.cell?, r1]; simpa using c2, .inr ?_⟩
            simp only [G.own, if_true]
            have : n * sz ≤ (n + m) * sz := Nat.mul_le_mul_right _ (by omega)
            omega
      · refine ⟨?_, by simpa [G.stab, G.own, eb] using hs⟩
        have := hg.block b1 hlt (by simpa using eb)
        simp only [World.cell?, this]
        exact hc
    · intro b1 l1 hlt hl1 hne
      obtain ⟨k1, k2⟩ := hk b e1
      have eb : b1 ≠ b := fun eb => by subst eb; rw [k1] at hl1; injection hl1 with hl1; exact hne hl1.symm
      exact ⟨by simpa [G.own, eb] using hl1, by simp [G.own, eb], hg.block b1 hlt (by simpa using eb)⟩
    · intro b1 hlt hl1
      obtain ⟨k1, k2⟩ := hk b e1
      have eb : b1 ≠ b := fun eb => by subst eb; rw [k1] at hl1; simp at hl1
      exact ⟨by simpa [G.own, eb] using hl1, hg.block b1 hlt (by simpa using eb)⟩
  · refine ⟨_, e2, hos, htape, hout, hsize, ?_, ?_, ?_, Nat.le_refl _, fun _ _ => rfl⟩
    · intro b1 i u hc hs
      have hlt : b1 < w.heap.size := World.block_lt_of_cell? w _ hc
      refine ⟨?_, by simpa [G.stab, G.own, Nat.ne_of_lt hlt] using hs⟩
      simp only [World.cell?, hheap b1 hlt]
      exact hc
    · intro b1 l1 hlt hl1 hne
      exact ⟨by simpa [G.own, Nat.ne_of_lt hlt] using hl1, by simp [G.own, Nat.ne_of_lt hlt], hheap b1 hlt⟩
    · intro b1 hlt hl1
      exact ⟨by simpa [G.own, Nat.ne_of_lt hlt] using hl1, hheap b1 hlt⟩

theorem op_app {o : Oper} {t : TypeId} {e sz bytes : Nat} {x y : Operand} {x' y' : X} {p : PV} {s1 : St} (h : Inv P g w a s) (ho : o.op = .call { callee := .builtin .append, args := #[x, y], argTypes := #[t, t] }) (hk : appOk P t e sz bytes = true)
    (hx : xOk x x' = true) (hy : xOk y y' = true) (ha : apqOp s e sz bytes x' y' = some (p, s1)) {d : Nat} (hd : o.dst = some d) (hp : s1.put o.dst p = some s') : OpRes P g w a o s' := by
  obtain ⟨i, z, hok⟩ := appOk_ok hk
  have hcells := hok.cells
  have exec : ∀ v w', (Builtin.append_ #[t, t] o.type #[a.eval x, a.eval y]).run P w = .ok v w' → (execOp a.eval o).run P w = .ok (.value v) w' := by
    intro v w' hr
    unfold execOp
    simp only [ho, resolve, invoke, builtin, Sem.run_bind, Sem.run_pure, Result.andThen_ok, List.map_toArray, List.map_cons, List.map_nil, hr]
  unfold apqOp at ha
  split at ha
  · rename_i ys hys
    have ry := x_toD h hy hys
    obtain ⟨ay, cy, ey, _⟩ := ry.sl_inv
    rw [ey] at ry
    -- the row that is appended to, owned at place l, and the slots that are left
    have main : ∀ {N : Loc → Prop} {l : Loc} {s0 : St} {xs : List D}, Inv P g w a s0 → Idle s0 N → (∀ q, N q → Mine q) → (∀ q, q = l → N q) → RepF P g w l (.own e xs) (a.eval x) → rowOk sz bytes xs ys = true →
        s0.put o.dst (.own e (xs ++ ys)) = some s' → OpRes P g w a o s' := by
      intro N l s0 xs h0 hN hNm hNl hown hro hp0
      obtain ⟨hb, hwid⟩ := rowOk_ok hro
      simp only [RepF] at hown
      obtain ⟨us, q1, q2, q3⟩ := hown
      rw [hcells] at q1 q2 q3
      by_cases hnil : ys = []
      · subst hnil
        have hrun : (Builtin.append_ #[t, t] o.type #[a.eval x, a.eval y]).run P w = .ok (a.eval x) w := by
          rw [ey]
          rcases q1.2 with ⟨hv, _⟩ | ⟨b, cap, cur, hv, _, _, hle, _⟩
          · rw [hv]; exact run_append_zero hok o.type none ay 0 0 cy (Nat.le_refl _)
          · rw [hv]; exact run_append_zero hok o.type _ ay _ cap cy hle
        rw [List.append_nil] at hp0
        refine OpRes.own (g' := g.relab (mvLoc l (.tm d 0))) (zs := xs) (e := e) h0 hN hNm (exec _ _ hrun) ((Chg.mv l (.tm d 0)).mono hNl) rfl ?_ hd hp0
        exact RepF.mv (l := l) (by simp only [RepF]; rw [hcells]; exact ⟨us, q1, q2, q3⟩)
      · obtain ⟨_, b, off, news, rfl, n1, n2, n3⟩ := ry.flat hnil hwid
        have hpos : 0 < ys.length := List.length_pos_iff.2 hnil
        obtain ⟨v', w', r1, r2, r3⟩ := run_append_any (P := P) hok o.type (c := cy) q1 ⟨b, off, none⟩ n1 (fun j u hj => by rw [Addr.add_lit]; exact (n2 j u hj).1) n3.oneCell hpos hb
        obtain ⟨b', e1, hch⟩ := Chg.append (g := g) (d := .tm d 0) q1 q3 r2 r3
        refine OpRes.own (e := e) h0 hN hNm (exec _ _ (by rw [ey]; exact r1)) (hch.mono hNl) rfl ?_ hd hp0
        simp only [RepF]
        rw [hcells]
        refine ⟨us ++ news, by rw [List.length_append]; exact r2, (q2.mono hch.stab).append (n3.mono hch.stab), fun b1 hb1 => ?_⟩
        rw [e1] at hb1
        simp only [Option.some.injEq] at hb1
        subst hb1
        simp [G.own]
    split at ha
    · rename_i n e' xs hn
      split at ha
      · rename_i he
        subst he
        split at ha
        · rename_i hro
          simp only [Option.some.injEq, Prod.mk.injEq] at ha
          obtain ⟨rfl, rfl⟩ := ha
          have hxn : x = .tmp n := by
            cases x <;> simp [xOk] at hx
            subst hx
            rfl
          subst hxn
          obtain ⟨k1, k2⟩ := h.slot' (t := n) hn (by simp)
          have hlt : n < s.tm.length := (List.getElem?_eq_some_iff.1 k1).1
          refine main (N := fun q => q = .tm n 0) (h.kill (fun cs hc => by rw [k1] at hc; simp at hc)) ⟨?_, fun id => ⟨fun e => by (cases e), fun j e => by (cases e)⟩⟩ (mine_of_eq (mine_tm n 0)) (fun q hq => hq) (show RepF P g w (.tm n 0) (.own e' xs) (a.va n) from k2) hro hp
          intro u q j hu hq he
          injection he with he1 he2
          subst he1
          simp only at hu
          rw [List.getElem?_set_self hlt] at hu
          simp only [Option.some.injEq] at hu
          exact hq hu.symm
        · simp at ha
      · simp at ha
    · rename_i x0 xs hn
      split at ha
      · rename_i hro
        simp only [Bool.and_eq_true] at hro
        obtain ⟨⟨hro, hw⟩, hne⟩ := hro
        simp only [Option.some.injEq, Prod.mk.injEq] at ha
        obtain ⟨rfl, rfl⟩ := ha
        obtain ⟨hb, hwid⟩ := rowOk_ok hro
        have hnil : ys ≠ [] := fun e => by subst e; simp at hne
        have hpos : 0 < ys.length := List.length_pos_iff.2 hnil
        have hwx : ∀ y ∈ xs, y.width = sz := by simpa [List.all_eq_true] using hw
        obtain ⟨q1, q2⟩ := x_cp h hx (q := .full xs) (by rw [hn]; rfl)
        have q3 := q2 (.ret 0)
        simp only [RepF] at q3
        obtain ⟨ax, q4, q5⟩ := q3
        obtain ⟨_, b, off, news, rfl, n1, n2, n3⟩ := ry.flat hnil hwid
        obtain ⟨us, u1, u2, u3, u4⟩ : ∃ us : List Value, us.length = xs.length * sz ∧ (∀ j u, us[j]? = some u → ∃ b, ax = some b ∧ w.cell? (b.add j) = some u) ∧ (ax = none → xs.length = 0) ∧ Flat g.stab w sz xs us := by
          by_cases hx0 : xs = []
          · subst hx0
            exact ⟨[], by simp, by simp, fun _ => rfl, Flat.nil _ _ _⟩
          · rw [q4] at q5
            obtain ⟨_, b1, o1, us, e1, m1, m2, m3⟩ := q5.flat hx0 hwx
            exact ⟨us, m1, fun j u hj => ⟨_, e1, by rw [Addr.add_lit]; exact (m2 j u hj).1⟩, fun hn => by rw [hn] at e1; simp at e1, m3⟩
        obtain ⟨v', w', r1, r2, r3, r4, r5, r6, r7, r8⟩ := run_append_full (P := P) hok o.type (c := cy) u1 u2 u3 ⟨b, off, none⟩ n1 (fun j u hj => by rw [Addr.add_lit]; exact (n2 j u hj).1) hpos hb
        obtain ⟨b', e1, hch⟩ := Chg.append (g := g) (l := .ret 0) (d := .tm d 0) (v := .slice none 0 0) (n := 0) (us := []) (m := xs.length + ys.length) (news := us ++ news) (World.ownsRow_nil w 0 e sz) (by simp [Value.ownBlock]) (by rw [Nat.zero_add]; exact r2) (.inr ⟨⟨r3, r4⟩, r5, r6, r7, r8⟩)
        refine OpRes.own (e := e) (N := fun q => q = .ret 0) h ⟨fun _ _ _ _ _ e => by (cases e), fun _ => ⟨fun e => by (cases e), fun _ e => by (cases e)⟩⟩ (mine_of_eq (fun _ e => by cases e)) (exec _ _ (by rw [ey, q4]; exact r1)) hch rfl ?_ hd hp
        simp only [RepF]
        rw [hcells]
        refine ⟨us ++ news, by rw [List.length_append]; exact r2, (u4.mono hch.stab).append (n3.mono hch.stab), fun b1 hb1 => ?_⟩
        rw [e1] at hb1
        simp only [Option.some.injEq] at hb1
        subst hb1
        simp [G.own]
      · simp at ha
    · rename_i x0 hn
      split at ha
      · rename_i hro
        simp only [Option.some.injEq, Prod.mk.injEq] at ha
        obtain ⟨rfl, rfl⟩ := ha
        obtain ⟨q1, q2⟩ := x_cp h hx (q := .nilsl) (by rw [hn]; rfl)
        have q3 := q2 (.ret 0)
        simp only [RepF] at q3
        refine main (N := fun q => q = .ret 0) (l := .ret 0) (xs := []) h ⟨fun _ _ _ _ _ e => by (cases e), fun _ => ⟨fun e => by (cases e), fun _ e => by (cases e)⟩⟩ (mine_of_eq (fun _ e => by cases e)) (fun q hq => hq) ?_ hro hp
        rw [q3]
        simp only [RepF]
        rw [hcells]
        exact ⟨[], World.ownsRow_nil _ _ _ _, Flat.nil _ _ _, by simp [Value.ownBlock]⟩
      · simp at ha
    · rename_i x0 hn
      split at ha
      · rename_i hro
        obtain ⟨hb, hwid⟩ := rowOk_ok hro
        obtain ⟨q1, q2⟩ := x_cp h hx (q := .d .fe) (by rw [hn]; rfl)
        have q3 := q2 (.ret 0)
        simp only [RepF] at q3
        obtain ⟨ax, q4⟩ := q3.fe_inv
        by_cases hnil : ys = []
        · subst hnil
          simp only [List.isEmpty_nil, if_true, Option.some.injEq, Prod.mk.injEq] at ha
          obtain ⟨rfl, rfl⟩ := ha
          have hrun : (Builtin.append_ #[t, t] o.type #[a.eval x, a.eval y]).run P w = .ok (a.eval x) w := by
            rw [ey, q4]
            exact run_append_zero hok o.type _ ay 0 0 cy (Nat.le_refl _)
          exact OpRes.value (l := .ret 0) h (exec _ _ hrun) hp rfl (by simp only [RepF]; exact q3)
        · have hne : ys.isEmpty = false := by cases ys with | nil => exact absurd rfl hnil | cons _ _ => rfl
          rw [hne] at ha
          simp only [Bool.false_eq_true, if_false, Option.some.injEq, Prod.mk.injEq] at ha
          obtain ⟨rfl, rfl⟩ := ha
          have hpos : 0 < ys.length := List.length_pos_iff.2 hnil
          obtain ⟨_, b, off, news, rfl, n1, n2, n3⟩ := ry.flat hnil hwid
          obtain ⟨v', w', r1, r2, r3, r4, r5, r6, r7, r8⟩ := run_append_full (P := P) hok o.type (c := cy) (n := 0) (us := []) (ax := ax) (by simp) (by simp) (fun _ => rfl) ⟨b, off, none⟩ n1 (fun j u hj => by rw [Addr.add_lit]; exact (n2 j u hj).1) hpos (by simpa using hb)
          obtain ⟨b', e1, hch⟩ := Chg.append (g := g) (l := .ret 0) (d := .tm d 0) (v := .slice none 0 0) (n := 0) (us := []) (m := ys.length) (news := news) (World.ownsRow_nil w 0 e sz) (by simp [Value.ownBlock]) (by simpa using r2) (.inr ⟨⟨r3, r4⟩, r5, r6, r7, r8⟩)
          refine OpRes.own (e := e) (N := fun q => q = .ret 0) h ⟨fun _ _ _ _ _ e => by (cases e), fun _ => ⟨fun e => by (cases e), fun _ e => by (cases e)⟩⟩ (mine_of_eq (fun _ e => by cases e)) (exec _ _ (by rw [ey, q4]; exact r1)) hch rfl ?_ hd hp
          simp only [RepF]
          rw [hcells]
          refine ⟨news, by simpa using r2, n3.mono hch.stab, fun b1 hb1 => ?_⟩
          rw [e1] at hb1
          simp only [Option.some.injEq] at hb1
          subst hb1
          simp [G.own]
      · simp at ha
    · simp at ha
  · simp at ha

end
end Go.Pe

namespace Go.Pe
section
variable {P : Program} {g : G} {w : World} {a : Act} {s s' : St} {S : Nat → Nat → Prop}
def GrowCase (w : World) (v v' : Value) (w' : World) : Prop :=
  (∃ b, v.ownBlock = some b ∧ v'.ownBlock = some b ∧ w.grownBy w' (some b)) ∨
  ((v'.ownBlock = some w.heap.size ∧ ∀ k, k < w.heap.size → w'.heap[k]? = w.heap[k]?) ∧ w.heap.size ≤ w'.heap.size ∧ w'.os = w.os ∧ w'.tape = w.tape ∧ w'.output = w.output) ∨
  (v' = v ∧ w' = w)
theorem run_append_str {w : World} (t u ty e : TypeId) (i : TypeInfo) (ht : P.underlying t = some (.slice e)) (hu : P.underlying u = some .string) (hi : P.info? e = some i) (hz : i.zero = some (.int .u8 0)) (hsize : i.size = 1) (hby : i.bytes = 1)
    (v : Value) (n : Nat) (xs : List Value) (hown : w.ownsRow 0 e 1 v n xs) (s : ByteArray) (hbytes : n + s.size ≤ 140737488355328) :
    ∃ v' w', (Builtin.append_ #[t, u] ty #[v, .string s]).run P w = .ok v' w' ∧ w'.ownsRow 0 e 1 v' (n + s.size) (xs ++ Lib.strCells s) ∧ GrowCase w v v' w' := by
  obtain ⟨v', w', hr, h2, h3, h4⟩ := Lib.run_append_own_string (P := P) w 0 t u ty e i ht hu hi hz hsize hby v n xs hown s (by unfold maxLen; omega) hbytes (Nat.zero_le _)
  refine ⟨v', w', hr, h2, ?_⟩
  have hxl : xs.length = n := by simpa using hown.1
  rcases hown.2 with ⟨rfl, rfl⟩ | ⟨g, cap, cur, rfl, hbg, hg, hnc, hcm, hcs, htake⟩
  · by_cases hm : s.size = 0
    · have hf := Lib.run_firstCells_string (P := P) w 1 s
      rw [hm] at hf
      have hr2 : (Builtin.append_ #[t, u] ty #[.slice none 0 0, .string s]).run P w = .ok (.slice none 0 0) w := by
        simp [Builtin.append_, run_underlying ht, run_underlying hu, sizeOf, typeInfo, hi, hsize, Builtin.lenOf, hm, hf]
      rw [hr] at hr2
      injection hr2 with q1 q2
      exact .inr (.inr ⟨q1, q2⟩)
    · have hr2 := run_append_nil_string (P := P) w t u ty e i (.int .u8 0) ht hu hi hz s (by omega) (by omega) (by rw [hby]; omega)
      rw [hr] at hr2
      injection hr2 with q1 q2
      subst q1; subst q2
      exact .inr (.inl ⟨⟨rfl, fun k hk => heap_alloc_old w.drew _ k hk⟩, by simp, rfl, rfl, rfl⟩)
  · by_cases hroom : n + s.size ≤ cap
    · have hcs' : cur.size = cap := by simpa using hcs
      have hr2 := Lib.run_append_room_string (P := P) w t u ty e i ht hu hi hsize g n cap cur hg s hroom (by omega)
      rw [hr] at hr2
      injection hr2 with q1 q2
      subst q1
      exact .inl ⟨g, rfl, rfl, h3⟩
    · have holds : ∀ j u, xs[j]? = some u → w.cell? ((⟨g, 0, none⟩ : Addr).add j) = some u := hown.cells (g := g) rfl
      have hr2 := Lib.run_append_grow_string (P := P) w t u ty e i (.int .u8 0) ht hu hi hz ⟨g, 0, none⟩ n cap xs (by rw [hsize]; simpa using hxl) holds s (by omega) (by omega) (by rw [hby]; exact growslice_fits (by omega) (by omega))
      rw [hr] at hr2
      injection hr2 with q1 q2
      subst q1; subst q2
      exact .inr (.inl ⟨⟨rfl, fun k hk => heap_alloc_old w.drew _ k hk⟩, by simp, rfl, rfl, rfl⟩)
theorem flat_bytes (S : Nat → Nat → Prop) (w : World) (l : List UInt8) : Flat S w 1 (bytesD l) (l.map fun b => Value.int .u8 b.toNat) where
  len := by simp [bytesD]
  wid := fun x hx => by
    obtain ⟨b, _, rfl⟩ := List.mem_map.1 hx
    rfl
  one := fun x hx c hc => by
    obtain ⟨b, _, rfl⟩ := List.mem_map.1 hx
    simp only [D.cells, List.mem_singleton] at hc
    subst hc; rfl
  rep := fun i x j c hi hj => by
    simp only [bytesD, List.getElem?_map, Option.map_eq_some_iff] at hi
    obtain ⟨b, hb, rfl⟩ := hi
    match j, hj with
    | 0, hj =>
      simp only [D.cells, List.getElem?_cons_zero, Option.some.injEq] at hj
      subst hj
      exact ⟨_, by simp [hb], .int _ _⟩

def apsOk (P : Program) (t u e : Nat) : Bool :=
  (match P.underlying t with | some (.slice e') => e' == e | _ => false) && (match P.underlying u with | some .string => true | _ => false) &&
  (match P.info? e with | some i => i.size == 1 && i.bytes == 1 && (match i.zero with | some (.int .u8 0) => true | _ => false) | none => false)
theorem apsOk_ok {t u e : Nat} (h : apsOk P t u e = true) : ∃ i, P.underlying t = some (.slice e) ∧ P.underlying u = some .string ∧ P.info? e = some i ∧ i.zero = some (.int .u8 0) ∧ i.size = 1 ∧ i.bytes = 1 := by
  unfold apsOk at h
  simp only [Bool.and_eq_true] at h
  obtain ⟨⟨h1, h2⟩, h3⟩ := h
  split at h1
  · rename_i e' hu
    simp only [beq_iff_eq] at h1
    subst h1
    split at h2
    · rename_i hs
      split at h3
      · rename_i i hi
        simp only [Bool.and_eq_true, beq_iff_eq] at h3
        obtain ⟨⟨k1, k2⟩, k3⟩ := h3
        split at k3
        · rename_i hz
          exact ⟨i, hu, hs, hi, hz, k1, k2⟩
        · simp at k3
      · simp at h3
    · simp at h2
  · simp at h1
theorem op_aps {o : Oper} {t u : TypeId} {e : Nat} {x y : Operand} {x' y' : X} {p : PV} {s1 : St} (h : Inv P g w a s) (ho : o.op = .call { callee := .builtin .append, args := #[x, y], argTypes := #[t, u] }) (hk : apsOk P t u e = true)
    (hx : xOk x x' = true) (hy : xOk y y' = true) (ha : apsOp s e x' y' = some (p, s1)) {d : Nat} (hd : o.dst = some d) (hp : s1.put o.dst p = some s') : OpRes P g w a o s' := by
  obtain ⟨i, ht, hu, hi, hz, hsz, hby⟩ := apsOk_ok hk
  have hcells : P.cellsOf e = 1 := by simp [Program.cellsOf, hi, hsz]
  have exec : ∀ v w', (Builtin.append_ #[t, u] o.type #[a.eval x, a.eval y]).run P w = .ok v w' → (execOp a.eval o).run P w = .ok (.value v) w' := by
    intro v w' hr
    unfold execOp
    simp only [ho, resolve, invoke, builtin, Sem.run_bind, Sem.run_pure, Result.andThen_ok, List.map_toArray, List.map_cons, List.map_nil, hr]
  unfold apsOp at ha
  split at ha
  · rename_i b hyb
    have ey : a.eval y = .string b := by
      have ry := x_toD h hy hyb
      exact ry.str_inv
    have main : ∀ {N : Loc → Prop} {l : Loc} {s0 : St} {xs : List D}, Inv P g w a s0 → Idle s0 N → (∀ q, N q → Mine q) → (∀ q, q = l → N q) → RepF P g w l (.own e xs) (a.eval x) → xs.length + b.size ≤ 140737488355328 →
        s0.put o.dst (.own e (xs ++ bytesD b.data.toList)) = some s' → OpRes P g w a o s' := by
      intro N l s0 xs h0 hN hNm hNl hown hb hp0
      simp only [RepF] at hown
      obtain ⟨us, q1, q2, q3⟩ := hown
      rw [hcells] at q1 q2 q3
      have hlen : b.size = (bytesD b.data.toList).length := by simp [bytesD]
      obtain ⟨v', w', r1, r2, r3⟩ := run_append_str (P := P) t u o.type e i ht hu hi hz hsz hby (a.eval x) xs.length us q1 b hb
      have fin : ∀ hcase, ∃ b', v'.ownBlock = some b' ∧ Chg (fun x => x = l) g w (g.own b' (some (.tm d 0)) ((xs.length + b.size) * 1)) w' := fun hcase => Chg.append (g := g) (d := .tm d 0) q1 q3 r2 hcase
      rcases r3 with r3 | r3 | ⟨rfl, rfl⟩
      · obtain ⟨b', e1, hch⟩ := fin (.inl r3)
        refine OpRes.own (e := e) h0 hN hNm (exec _ _ (by rw [ey]; exact r1)) (hch.mono hNl) rfl ?_ hd hp0
        simp only [RepF]
        rw [hcells]
        refine ⟨us ++ Lib.strCells b, by rw [List.length_append, ← hlen]; exact r2, (q2.mono hch.stab).append (flat_bytes _ _ _), fun b1 hb1 => ?_⟩
        rw [e1] at hb1
        simp only [Option.some.injEq] at hb1
        subst hb1
        simp [G.own, hlen]
      · obtain ⟨b', e1, hch⟩ := fin (.inr r3)
        refine OpRes.own (e := e) h0 hN hNm (exec _ _ (by rw [ey]; exact r1)) (hch.mono hNl) rfl ?_ hd hp0
        simp only [RepF]
        rw [hcells]
        refine ⟨us ++ Lib.strCells b, by rw [List.length_append, ← hlen]; exact r2, (q2.mono hch.stab).append (flat_bytes _ _ _), fun b1 hb1 => ?_⟩
        rw [e1] at hb1
        simp only [Option.some.injEq] at hb1
        subst hb1
        simp [G.own, hlen]
      · have h0b : b.size = 0 := by
          rcases q1.2 with ⟨hv, hn⟩ | ⟨b1, cap, cur, hv, _⟩
          · rcases r2.2 with ⟨hv2, hn2⟩ | ⟨b2, cap2, cur2, hv2, _⟩
            · omega
            · rw [hv] at hv2; simp at hv2
          · rcases r2.2 with ⟨hv2, hn2⟩ | ⟨b2, cap2, cur2, hv2, _⟩
            · rw [hv] at hv2; simp at hv2
            · rw [hv] at hv2
              simp only [Value.slice.injEq] at hv2
              omega
        have hnb : bytesD b.data.toList = [] := List.eq_nil_of_length_eq_zero (by rw [← hlen]; exact h0b)
        rw [hnb, List.append_nil] at hp0
        refine OpRes.own (g' := g.relab (mvLoc l (.tm d 0))) (zs := xs) (e := e) h0 hN hNm (exec _ _ (by rw [ey]; exact r1)) ((Chg.mv l (.tm d 0)).mono hNl) rfl ?_ hd hp0
        exact RepF.mv (l := l) (by simp only [RepF]; rw [hcells]; exact ⟨us, q1, q2, q3⟩)
    split at ha
    · rename_i n e' xs hn
      split at ha
      · rename_i he
        subst he
        split at ha
        · rename_i hro
          simp only [Option.some.injEq, Prod.mk.injEq] at ha
          obtain ⟨rfl, rfl⟩ := ha
          have hxn : x = .tmp n := by
            cases x <;> simp [xOk] at hx
            subst hx
            rfl
          subst hxn
          obtain ⟨k1, k2⟩ := h.slot' (t := n) hn (by simp)
          have hlt : n < s.tm.length := (List.getElem?_eq_some_iff.1 k1).1
          refine main (N := fun q => q = .tm n 0) (h.kill (fun cs hc => by rw [k1] at hc; simp at hc)) ⟨?_, fun id => ⟨fun e => by (cases e), fun j e => by (cases e)⟩⟩ (mine_of_eq (mine_tm n 0)) (fun q hq => hq) (show RepF P g w (.tm n 0) (.own e' xs) (a.va n) from k2) hro hp
          intro u q j hu hq he
          injection he with he1 he2
          subst he1
          simp only at hu
          rw [List.getElem?_set_self hlt] at hu
          simp only [Option.some.injEq] at hu
          exact hq hu.symm
        · simp at ha
      · simp at ha
    · rename_i x0 hn
      split at ha
      · rename_i hro
        simp only [Option.some.injEq, Prod.mk.injEq] at ha
        obtain ⟨rfl, rfl⟩ := ha
        obtain ⟨q1, q2⟩ := x_cp h hx (q := .nilsl) (by rw [hn]; rfl)
        have q3 := q2 (.ret 0)
        simp only [RepF] at q3
        refine main (N := fun q => q = .ret 0) (l := .ret 0) (xs := []) h ⟨fun _ _ _ _ _ e => by (cases e), fun _ => ⟨fun e => by (cases e), fun _ e => by (cases e)⟩⟩ (mine_of_eq (fun _ e => by cases e)) (fun q hq => hq) ?_ (by simpa using hro) hp
        rw [q3]
        simp only [RepF]
        rw [hcells]
        exact ⟨[], World.ownsRow_nil _ _ _ _, Flat.nil _ _ _, by simp [Value.ownBlock]⟩
      · simp at ha
    · simp at ha
  · simp at ha
end
end Go.Pe
