/-
  Texts joined by program: An abstract machine for the model's Code: values as trees; memory only for variables, for slices that are written, for maps. Definitions alone. Functions of the library that are given by hand to the abstract machine: definitions alone. Answers kept by: definitions alone. Runs of the abstract machine along a given path: at a branch the path may say which way; what must hold for it is kept.
-/
import GoSem.Step
/-! An abstract machine for the model's Code: values as trees; memory only for variables, for slices that are written, for maps. Definitions alone. -/
namespace Go.Va

/-- Abstract values. `bot` stands for anything. -/
inductive AV where
  | bot
  | bool (b : Bool)
  | int (k : IntKind) (n : Int)
  | str (s : ByteArray)
  | agg (cs : List AV)
  | tup (vs : List AV)
  | func (f : FuncId) (first cap : List AV)
  | nilF
  | nilP
  | nilM
  | ptr (k ver off : Nat)
  | tptr (v : AV)
  | slT (lim : Bool) (xs : List AV)
  | slR (k ver off len w : Nat) (ag : Bool)
  | mapR (k : Nat)
  | mapT (ks vs : List AV)

def AV.cells : AV → List AV
  | .agg cs => cs
  | v => [v]

/-- is it no `bot` and no aggregate: the value of one cell? -/
def AV.scalar : AV → Bool
  | .bot | .agg _ | .tup _ => false
  | _ => true

mutual
/-- as closed data: no pointers into the abstract heap -/
def AV.data : AV → Option AV
  | .bool b => some (.bool b)
  | .int k n => some (.int k n)
  | .str s => some (.str s)
  | .agg cs => match AV.datas cs with | some ds => some (.agg ds) | none => none
  | .tup cs => match AV.datas cs with | some ds => some (.tup ds) | none => none
  | .func f a b => match AV.datas a with
    | some a' => (match AV.datas b with | some b' => some (.func f a' b') | none => none)
    | none => none
  | .nilF => some .nilF
  | .nilP => some .nilP
  | .nilM => some .nilM
  | .slT _ xs => some (.slT false xs)
  | .mapT ks vs => some (.mapT ks vs)
  | .bot | .ptr .. | .tptr _ | .slR .. | .mapR _ => none
def AV.datas : List AV → Option (List AV)
  | [] => some []
  | v :: vs => match AV.data v with
    | some d => (match AV.datas vs with | some ds => some (d :: ds) | none => none)
    | none => none
end

mutual
/-- all keys in it are below c -/
def AV.under (c : Nat) : AV → Bool
  | .agg cs | .tup cs => AV.unders c cs
  | .func _ a b => AV.unders c a && AV.unders c b
  | .ptr k _ _ | .slR k _ _ _ _ _ | .mapR k => Nat.blt k c
  | _ => true
def AV.unders (c : Nat) : List AV → Bool
  | [] => true
  | v :: vs => AV.under c v && AV.unders c vs
end

/-- Abstract objects: a row of cells (with a version: an append makes a new one; `var`: a variable's, dropped where its scope ends), a map. -/
inductive Obj where
  | arr (ver : Nat) (var : Bool) (cells : List AV)
  | map (ks vs : List AV)

abbrev Objs := List (Nat × Obj)

def Objs.get : Objs → Nat → Option Obj
  | [], _ => none
  | (k, o) :: r, n => if Nat.beq k n then some o else Objs.get r n

def Objs.set : Objs → Nat → Obj → Objs
  | [], _, _ => []
  | (k, o) :: r, n, o' => if Nat.beq k n then (k, o') :: r else (k, o) :: Objs.set r n o'

def Objs.del : Objs → Nat → Objs
  | [], _ => []
  | (k, o) :: r, n => if Nat.beq k n then Objs.del r n else (k, o) :: Objs.del r n

/-- the objects with keys below c -/
def Objs.view (c : Nat) : Objs → Objs
  | [] => []
  | (k, o) :: r => if Nat.blt k c then (k, o) :: Objs.view c r else Objs.view c r

/-- the variables from c on, dropped -/
def Objs.drop (c : Nat) : Objs → Objs
  | [] => []
  | (k, .arr ver true cs) :: r => if Nat.blt k c then (k, .arr ver true cs) :: Objs.drop c r else Objs.drop c r
  | (k, o) :: r => (k, o) :: Objs.drop c r

def Objs.belows (c : Nat) : Objs → Bool
  | [] => true
  | (k, .arr _ _ cs) :: r => Nat.blt k c && AV.unders c cs && Objs.belows c r
  | (k, .map ks vs) :: r => Nat.blt k c && AV.unders c ks && AV.unders c vs && Objs.belows c r

structure H where
  objs : Objs
  cnt : Nat
  ro : Nat

abbrev T := List (Nat × AV)

def T.get : T → Nat → AV
  | [], _ => .bot
  | (k, v) :: r, n => if Nat.beq k n then v else T.get r n

def T.put (t : T) : Option Nat → AV → T
  | none, _ => t
  | some d, v => (d, v) :: t

def T.scrub (t : T) : List Nat → T
  | [] => []
  | n :: ns => (n, t.get n) :: T.scrub t ns

def T.belows (c : Nat) : T → Bool
  | [] => true
  | (_, v) :: r => AV.under c v && T.belows c r

def T.ofArgs : Nat → List AV → T
  | _, [] => []
  | n, v :: vs => (n, v) :: T.ofArgs (n + 1) vs

inductive Opd where
  | t (n : Nat)
  | c (v : AV)
  | f (id : Nat)

def Opd.ev (tt : T) : Opd → AV
  | .t n => tt.get n
  | .c v => v
  | .f id => .func id [] []

/-- the shape of what is read or written: one cell, or an aggregate of n -/
inductive Sh where
  | one
  | many (n : Nat)

def Sh.size : Sh → Nat
  | .one => 1
  | .many n => n

def Sh.ag : Sh → Bool
  | .one => false
  | .many _ => true

/-- how a callee is run: on data alone; in the caller's memory; on data read out of the caller's memory, its answer without any of them -/
inductive Md where
  | pure | inl | bor | auto

inductive AOp where
  | mov (x : Opd)
  | nilv (sh : Sh)
  | pick (c a b : Opd)
  | alloc (cells : List AV)
  | box (x : Opd)
  | build (zero : List AV) (parts : List (Nat × Nat × Opd))
  | mkSl (zero : List AV) (sh : Sh) (len : Nat) (parts : List (Nat × Opd))
  | load (sh : Sh) (x : Opd)
  | loadT (sh : Sh) (x : Opd)
  | store (n : Nat) (x v : Opd)
  | storeN (n : Nat) (x v : Opd)
  | bin (op : BinOp) (et : Nat) (x y : Opd)
  | un (op : UnOp) (x : Opd)
  | conv (k : IntKind) (x : Opd)
  | mkFn (f : Nat) (first cap : List Opd)
  | mkMap
  | mkSlice (zero : List AV) (sh : Sh) (bytes : Nat) (len cap : Opd)
  | slice (sh : Sh) (x : Opd) (lo hi mx : Option Opd)
  | sliceA (n : Nat) (sh : Sh) (x : Opd) (lo hi mx : Option Opd)
  | fldA (off : Nat) (sh : Sh) (x : Opd)
  | fld (off : Nat) (sh : Sh) (x : Opd)
  | idxS (sh : Sh) (x i : Opd)
  | idxA (n : Nat) (sh : Sh) (x i : Opd)
  | idx (n : Nat) (sh : Sh) (x i : Opd)
  | idxStr (x i : Opd)
  | look (zero : AV) (kn : Nat) (x k : Opd) (ok : Bool)
  | mupd (kn : Nat) (m k v : Opd)
  | ment (zero : AV) (kn : Nat) (m k : Opd)
  | estore (m s v : Opd)
  | ext (i : Nat) (x : Opd)
  | call (md : Md) (eff : Bool) (f : Opd) (args : List Opd)
  | app (sh : Sh) (bytes : Nat) (x y : Opd)
  | appN (sh : Sh) (bytes : Nat) (x y : Opd)
  | appZ (zero : List AV) (sh : Sh) (bytes : Nat) (x n : Opd)
  | lenA (n : Nat)
  | len (x : Opd)
  | lenM (x : Opd)
  | cap (x : Opd)
  | clear (zero : List AV) (x : Opd)
  | max (l : List Opd)
  | min (l : List Opd)
  | nilchk (x : Opd)
  | stuck

structure AOpr where
  dst : Option Nat
  op : AOp
  guard : Option (Nat × Bool)

inductive AC where
  | skip
  | region (fz : List Nat) (ex : List (Nat × Nat)) (ops : List AOpr) (draw : Bool) (live : List Nat)
  | seq (a b : AC)
  | cond (c : Opd) (a b : AC) (live : List Nat)
  | block (id : Nat) (a : AC) (live : List Nat)
  | loop (a : AC) (live : List Nat)
  | exit (id : Nat)
  | ret

inductive ResV where
  | t (n : Nat)
  | cell (n : Nat) (sh : Sh)

structure AFunc where
  body : AC
  res : List ResV

inductive Out where
  | norm
  | exit (id : Nat)
  | ret

/-! ## Single operations -/

/-- part of a row of cells -/
def partOf (sh : Sh) (cs : List AV) (off : Nat) : Option AV :=
  match sh with
  | .one => cs[off]?
  | .many n => if Nat.ble (off + n) cs.length then some (.agg ((cs.drop off).take n)) else none

def loadV (os : Objs) (sh : Sh) : AV → Option AV
  | .ptr k ver off => match os.get k with
    | some (.arr ver' _ cs) => if Nat.beq ver ver' then partOf sh cs off else none
    | _ => none
  | _ => none

/-- what an immutable variable holds -/
def loadTV (sh : Sh) : AV → Option AV
  | .tptr v => match sh, v.cells with
    | .one, [c] => some c
    | .one, _ => none
    | .many n, cs => if Nat.beq cs.length n then some (.agg cs) else none
  | _ => none

def scalars : List AV → Bool
  | [] => true
  | v :: vs => v.scalar && scalars vs

/-- cells from off on replaced -/
def putAt (cs : List AV) (off : Nat) (vs : List AV) : List AV := cs.take off ++ vs ++ cs.drop (off + vs.length)

def storeV (h : H) (n : Nat) (p v : AV) : Option H :=
  match p with
  | .ptr k ver off => if Nat.blt k h.ro then none else match h.objs.get k with
    | some (.arr ver' var cs) =>
      if Nat.beq ver ver' && Nat.beq v.cells.length n && scalars v.cells && Nat.ble (off + n) cs.length then
        some { h with objs := h.objs.set k (.arr ver var (putAt cs off v.cells)) } else none
    | _ => none
  | _ => none

def intBin (op : BinOp) (k : IntKind) (a b : Int) : Option AV :=
  match op with
  | .add => some (.int k (k.wrap (a + b)))
  | .sub => some (.int k (k.wrap (a - b)))
  | .mul => some (.int k (k.wrap (a * b)))
  | .quo => if b = 0 then none else some (.int k (k.wrap (a.tdiv b)))
  | .rem => if b = 0 then none else some (.int k (a.tmod b))
  | .and => some (.int k (k.wrap (BitVec.ofInt k.bits a &&& BitVec.ofInt k.bits b).toNat))
  | .or => some (.int k (k.wrap (BitVec.ofInt k.bits a ||| BitVec.ofInt k.bits b).toNat))
  | .xor => some (.int k (k.wrap (BitVec.ofInt k.bits a ^^^ BitVec.ofInt k.bits b).toNat))
  | .andNot => some (.int k (k.wrap (BitVec.ofInt k.bits a &&& ~~~(BitVec.ofInt k.bits b)).toNat))
  | .eql => some (.bool (a == b))
  | .neq => some (.bool (a != b))
  | .lss => some (.bool (decide (a < b)))
  | .leq => some (.bool (decide (a ≤ b)))
  | .gtr => some (.bool (decide (a > b)))
  | .geq => some (.bool (decide (a ≥ b)))
  | _ => none

def shiftBin (op : BinOp) (k : IntKind) (a b : Int) : Option AV :=
  if b < 0 then none else
  match op with
  | .shl => some (.int k (k.wrap (a * 2 ^ (min b.toNat k.bits))))
  | .shr => some (.int k (a.fdiv (2 ^ (min b.toNat k.bits))))
  | _ => none

/-- are two rows of integers equal? -/
def eqCells : List AV → List AV → Option Bool
  | [], [] => some true
  | .int k a :: xs, .int k' b :: ys => if k = k' then (match eqCells xs ys with | some r => some (a == b && r) | none => none) else none
  | _, _ => none

def isShift : BinOp → Bool
  | .shl | .shr => true
  | _ => false

def binV (op : BinOp) (et : Nat) (x y : AV) : Option AV :=
  match x, y with
  | .int k a, .int k' b => if isShift op then shiftBin op k a b else if k = k' then intBin op k a b else none
  | .bool a, .bool b => if Nat.beq et 1 then (match op with | .eql => some (.bool (a == b)) | .neq => some (.bool (!(a == b))) | _ => none) else none
  | .agg xs, .agg ys => match et with
    | n + 2 => if Nat.beq xs.length n && Nat.beq ys.length n then
      (match op, eqCells xs ys with | .eql, some r => some (.bool r) | .neq, some r => some (.bool (!r)) | _, _ => none) else none
    | _ => none
  | _, _ => none

def unV (op : UnOp) (x : AV) : Option AV :=
  match op, x with
  | .neg, .int k n => some (.int k (k.wrap (0 - n)))
  | .xor, .int k n => intBin .xor k (if k.signed then -1 else k.max) n
  | .not, .bool b => some (.bool (!b))
  | _, _ => none

/-- a literal's cells out of its parts: (offset, cells, value) -/
def fillV : List AV → List (Nat × Nat × AV) → Option (List AV)
  | cs, [] => some cs
  | cs, (off, n, v) :: r => if Nat.beq v.cells.length n && scalars v.cells && Nat.ble (off + n) cs.length then fillV (putAt cs off v.cells) r else none

/-- an element out of its cells -/
def elemOfCells (sh : Sh) (cs : List AV) : Option AV :=
  match sh, cs with
  | .one, [v] => some v
  | .one, _ => none
  | .many n, cs => if Nat.beq cs.length n then some (.agg cs) else none

/-- len elements out of a row -/
def elemsOf (sh : Sh) : Nat → List AV → Option (List AV)
  | 0, _ => some []
  | n + 1, cs => match elemOfCells sh (cs.take sh.size) with
    | some v => (match elemsOf sh n (cs.drop sh.size) with | some vs => some (v :: vs) | none => none)
    | none => none

def replicateCells (zero : List AV) : Nat → List AV
  | 0 => []
  | n + 1 => zero ++ replicateCells zero n

def natOf : AV → Option Nat
  | .int _ n => if 0 ≤ n then some n.toNat else none
  | _ => none

def natOr (d : Nat) : Option AV → Option Nat
  | none => some d
  | some v => natOf v

def headW (n : Nat) : List AV → Bool
  | [] => true
  | x :: _ => Nat.beq x.cells.length n

/-- x[lo:hi:mx] -/
def sliceV (sh : Sh) (x : AV) (lo hi mx : Option AV) : Option AV :=
  match x with
  | .slT lim xs => match natOr 0 lo, natOr xs.length hi with
    | some l, some h => if Nat.ble l h && Nat.ble h xs.length && headW sh.size xs then
        (match mx with
         | none => some (.slT (lim && Nat.beq h xs.length) ((xs.take h).drop l))
         | some m => match natOf m with
           | some m => if Nat.ble h m && Nat.ble m xs.length && hi.isSome then some (.slT (Nat.beq m h) ((xs.take h).drop l)) else none
           | none => none)
      else none
    | _, _ => none
  | .slR k ver off len w ag => match natOr 0 lo, natOr len hi, natOr len mx with
    | some l, some h, some m => if Nat.ble l h && Nat.ble h m && Nat.ble m len && Nat.beq w sh.size && (mx.isNone || hi.isSome) then
        (if Nat.beq l h && Nat.blt 0 l then some (.slT false []) else some (.slR k ver (off + l * w) (h - l) w ag))
      else none
    | _, _, _ => none
  | _ => none

/-- a[lo:hi:mx] of an array variable -/
def sliceAV (os : Objs) (n : Nat) (sh : Sh) (x : AV) (lo hi mx : Option AV) : Option AV :=
  match x with
  | .ptr k ver off => match os.get k with
    | some (.arr ver' _ cs) => if Nat.beq ver ver' && Nat.ble (off + n * sh.size) cs.length then
      (match natOr 0 lo, natOr n hi, mx with
      | some l, some h, none => if Nat.ble l h && Nat.ble h n then
          (if Nat.beq l h then some (.slT false []) else some (.slR k ver (off + l * sh.size) (h - l) sh.size sh.ag)) else none
      | _, _, _ => none) else none
    | _ => none
  | _ => none

def idxSV (sh : Sh) (x i : AV) : Option AV :=
  match x, natOf i with
  | .slT _ xs, some i => match xs[i]? with
    | some v => if Nat.beq v.cells.length sh.size then some (.tptr v) else none
    | none => none
  | .slR k ver off len w _, some i => if Nat.blt i len && Nat.beq w sh.size then some (.ptr k ver (off + i * w)) else none
  | _, _ => none

def idxAV (n : Nat) (sh : Sh) (x i : AV) : Option AV :=
  match x, natOf i with
  | .ptr k ver off, some i => if Nat.blt i n then some (.ptr k ver (off + i * sh.size)) else none
  | .tptr (.agg cs), some i => if Nat.blt i n then (match partOf sh cs (i * sh.size) with | some v => some (.tptr v) | none => none) else none
  | _, _ => none

/-- the place of a key in a map -/
def findV (k : List AV) : List AV → Nat → Option (Option Nat)
  | [], _ => some none
  | .agg x :: xs, i => match eqCells k x with
    | some true => some (some i)
    | some false => findV k xs (i + 1)
    | none => none
  | _ :: _, _ => none

def isInt1 : AV → Bool
  | .int _ _ => true
  | _ => false

/-- a key: so many integers -/
def keyOf (n : Nat) : AV → Option (List AV)
  | .agg cs => if Nat.beq cs.length n && cs.all isInt1 then some cs else none
  | _ => none

def lookIn (zero : AV) (ks vs : List AV) (k : List AV) (ok : Bool) : Option AV :=
  match findV k ks 0 with
  | some (some i) => (match vs[i]? with
    | some v => some (if ok then .tup [v, .bool true] else v)
    | none => none)
  | some none => some (if ok then .tup [zero, .bool false] else zero)
  | none => none

def lookV (os : Objs) (zero : AV) (kn : Nat) (m k : AV) (ok : Bool) : Option AV :=
  match keyOf kn k with
  | none => none
  | some kc => match m with
    | .mapR r => (match os.get r with | some (.map ks vs) => lookIn zero ks vs kc ok | _ => none)
    | .mapT ks vs => lookIn zero ks vs kc ok
    | _ => none

def mupdV (h : H) (kn : Nat) (m k v : AV) : Option H :=
  match keyOf kn k, m with
  | some kc, .mapR r => if Nat.blt r h.ro then none else match h.objs.get r with
    | some (.map ks vs) => match findV kc ks 0 with
      | some (some i) => some { h with objs := h.objs.set r (.map ks (vs.set i v)) }
      | some none => some { h with objs := h.objs.set r (.map (ks ++ [k]) (vs ++ [v])) }
      | none => none
    | _ => none
  | _, _ => none

/-- the entry of a key, made if there is none -/
def mentV (h : H) (zero : AV) (kn : Nat) (m k : AV) : Option (AV × H) :=
  match keyOf kn k, m with
  | some kc, .mapR r => if Nat.blt r h.ro then none else match h.objs.get r with
    | some (.map ks vs) => match findV kc ks 0 with
      | some (some i) => (match vs[i]? with | some v => some (.tup [v, .int .i64 i], h) | none => none)
      | some none => some (.tup [zero, .int .i64 ks.length], { h with objs := h.objs.set r (.map (ks ++ [k]) (vs ++ [zero])) })
      | none => none
    | _ => none
  | _, _ => none

/-- the elements' cells of a source of append -/
def srcCells (os : Objs) (sh : Sh) (not : Nat) : AV → Option (Nat × List AV)
  | .slT _ xs => if xs.all (fun v => Nat.beq v.cells.length sh.size) then some (xs.length, xs.flatMap AV.cells) else none
  | .slR k ver off len w _ => if Nat.beq k not then none else match os.get k with
    | some (.arr ver' _ cs) => if Nat.beq ver ver' && Nat.beq w sh.size && Nat.ble (off + len * w) cs.length then some (len, (cs.drop off).take (len * w)) else none
    | _ => none
  | _ => none

def roomOk (n : Nat) (bytes : Nat) : Bool := Nat.ble (n * bytes) 281474976710656

/-- append to nothing: a new row -/
def appNV (os : Objs) (nk : Nat) (sh : Sh) (bytes : Nat) (x y : AV) : Option (AV × Option Obj) :=
  match x with
  | .slT true [] => match srcCells os sh nk y with
    | some (n, src) => if Nat.beq n 0 then some (x, none) else
      if roomOk n bytes && scalars src then some (.slR nk 0 0 n sh.size sh.ag, some (.arr 0 false src)) else none
    | none => none
  | _ => none

def appV (h : H) (nk : Nat) (sh : Sh) (bytes : Nat) (x y : AV) : Option (AV × H) :=
  match x with
  | .slR k ver off len w ag => if Nat.blt k h.ro || !(Nat.beq off 0) || !(Nat.beq w sh.size) || Nat.blt h.cnt k then none else match srcCells h.objs sh k y with
    | some (n, src) => if Nat.beq n 0 then some (x, h) else match h.objs.get k with
      | some (.arr ver' var cs) => if Nat.beq ver ver' && Nat.ble (len * w) cs.length && scalars src && roomOk (2 * (len + n) + 768) bytes then
          some (.slR k (ver + 1) 0 (len + n) w ag, { h with objs := h.objs.set k (.arr (ver + 1) var (cs.take (len * w) ++ src)) }) else none
      | _ => none
    | none => none
  | x => match appNV h.objs nk sh bytes x y with
    | some (v, some o) => some (v, { h with objs := (nk, o) :: h.objs })
    | some (v, none) => some (v, h)
    | none => none

def appZV (nk : Nat) (zero : List AV) (sh : Sh) (bytes : Nat) (x y : AV) : Option (AV × Option Obj) :=
  match x, natOf y with
  | .slT true [], some n => if Nat.beq n 0 then some (x, none) else
      if roomOk n bytes then some (.slR nk 0 0 n sh.size sh.ag, some (.arr 0 false (replicateCells zero n))) else none
  | _, _ => none

def intsOf : List AV → Option (IntKind × List Int)
  | [] => none
  | [.int k n] => some (k, [n])
  | .int k n :: r => match intsOf r with | some (k', l) => if k = k' then some (k, n :: l) else none | none => none
  | _ => none

def maxV : List AV → Option AV
  | l => match intsOf l with
    | some (k, x :: r) => some (.int k (r.foldl (fun x y => if y > x then y else x) x))
    | _ => none

def minV : List AV → Option AV
  | l => match intsOf l with
    | some (k, x :: r) => some (.int k (r.foldl (fun x y => if y < x then y else x) x))
    | _ => none

def fzMany (f : Objs → AV → Option (AV × Objs)) : Objs → List AV → Option (List AV × Objs)
  | os, [] => some ([], os)
  | os, v :: vs => match f os v with
    | some (d, os) => (match fzMany f os vs with | some (ds, os) => some (d :: ds, os) | none => none)
    | none => none

/-- math/bits.Add64, Sub64 -/
def primAdd64 : List AV → H → Option (AV × H)
  | [.int .u64 x, .int .u64 y, .int .u64 c], h => if 0 ≤ x ∧ 0 ≤ y ∧ 0 ≤ c ∧ c ≤ 1 then
      some (.tup [.int .u64 ((x + y + c) % 18446744073709551616), .int .u64 ((x + y + c) / 18446744073709551616)], h) else none
  | _, _ => none

def primSub64 : List AV → H → Option (AV × H)
  | [.int .u64 x, .int .u64 y, .int .u64 b], h => if 0 ≤ x ∧ 0 ≤ y ∧ y ≤ 18446744073709551615 ∧ 0 ≤ b ∧ b ≤ 1 then
      some (.tup [.int .u64 ((x + 18446744073709551616 - y - b) % 18446744073709551616), .int .u64 (if x < y + b then 1 else 0)], h) else none
  | _, _ => none

/-- slices.Clone: a new row with the elements of a slice -/
def primClone (sh : Sh) (bytes : Nat) : List AV → H → Option (AV × H)
  | [x], h => match srcCells h.objs sh h.cnt x with
    | some (n, src) => if Nat.beq n 0 then some (.slT false [], h) else
      if roomOk n bytes && scalars src then some (.slR h.cnt 0 0 n sh.size sh.ag, { h with objs := (h.cnt, .arr 0 false src) :: h.objs, cnt := h.cnt + 1 }) else none
    | none => none
  | _, _ => none

/-- a value with its slices and maps as trees; the objects read (no key below ro) are struck -/
def freezeV (ro : Nat) : Nat → Objs → AV → Option (AV × Objs)
  | 0, _, _ => none
  | n + 1, os, v =>
    match v with
    | .slR k ver off len w ag => if Nat.blt k ro then none else match os.get k with
      | some (.arr ver' _ cs) => if Nat.beq ver ver' && Nat.ble (off + len * w) cs.length then
          (match fzMany (freezeV ro n) (os.del k) ((cs.drop off).take (len * w)) with
           | some (ds, os) => (match elemsOf (if ag then .many w else .one) len ds with | some xs => some (.slT false xs, os) | none => none)
           | none => none) else none
      | _ => none
    | .mapR r => if Nat.blt r ro then none else match os.get r with
      | some (.map ks vs) => match fzMany (freezeV ro n) (os.del r) vs with
        | some (ds, os) => some (.mapT ks ds, os)
        | none => none
      | _ => none
    | .agg cs => match fzMany (freezeV ro n) os cs with | some (ds, os) => some (.agg ds, os) | none => none
    | .tup cs => match fzMany (freezeV ro n) os cs with | some (ds, os) => some (.tup ds, os) | none => none
    | v => match v.data with | some d => some (d, os) | none => none

def lendMany (f : AV → Option AV) : List AV → Option (List AV)
  | [] => some []
  | v :: vs => match f v with
    | some d => (match lendMany f vs with | some ds => some (d :: ds) | none => none)
    | none => none

/-- a value with its slices and maps as trees, as memory is now -/
def lendV (os : Objs) : Nat → AV → Option AV
  | 0, _ => none
  | n + 1, v =>
    match v with
    | .slR k ver off len w ag => match os.get k with
      | some (.arr ver' _ cs) => if Nat.beq ver ver' && Nat.ble (off + len * w) cs.length then
          (match lendMany (lendV os n) ((cs.drop off).take (len * w)) with
           | some ds => (match elemsOf (if ag then .many w else .one) len ds with | some xs => some (.slT false xs) | none => none)
           | none => none) else none
      | _ => none
    | .agg cs => match lendMany (lendV os n) cs with | some ds => some (.agg ds) | none => none
    | .tup cs => match lendMany (lendV os n) cs with | some ds => some (.tup ds) | none => none
    | v => v.data

/-- how deep values are frozen -/
def deep : Nat := 6

/-- a variable whose pointer is given is frozen, too -/
def freezeP (ro : Nat) (os : Objs) (v : AV) : Option (AV × Objs) :=
  match v with
  | .ptr k ver off => if Nat.beq off 0 && Nat.ble ro k then (match os.get k with
    | some (.arr ver' _ cs) => if Nat.beq ver ver' then (match freezeV ro deep (os.del k) (.agg cs) with
      | some (d, os) => some (.tptr d, os)
      | none => none) else none
    | _ => none) else none
  | v => freezeV ro deep os v

def freezeT : List Nat → T → H → Option (T × H)
  | [], t, h => some (t, h)
  | n :: ns, t, h => match freezeP h.ro h.objs (t.get n) with
    | some (d, os) => freezeT ns ((n, d) :: t) { h with objs := os }
    | none => none

/-- where nothing that is left leads to objects from c on, these are dropped and keys start at c again -/
def trim (c : Nat) (t : T) (h : H) : H :=
  let os := h.objs.view c
  if Objs.belows c os && t.belows c then { h with objs := os, cnt := c } else h

def evs (t : T) : List Opd → List AV
  | [] => []
  | x :: xs => x.ev t :: evs t xs

abbrev CallF := Md → FuncId → List AV → H → Option (AV × H)

/-- what stands for a function: its code, or an answer whose rightness is shown by itself -/
inductive Entry where
  | code (f : AFunc)
  | prim (p : List AV → H → Option (AV × H))

abbrev Tab := FuncId → Option Entry

def ev? (t : T) : Option Opd → Option AV
  | none => none
  | some x => some (x.ev t)

/-- an operation that touches no memory -/
def inertV (t : T) : AOp → Option AV
  | .mov x => some (x.ev t)
  | .pick c a b => match c.ev t with | .bool true => some (a.ev t) | .bool false => some (b.ev t) | _ => none
  | .build zero parts => match fillV zero (parts.map fun (o, n, x) => (o, n, x.ev t)) with | some cs => some (.agg cs) | none => none
  | .bin op et x y => binV op et (x.ev t) (y.ev t)
  | .un op x => unV op (x.ev t)
  | .conv k x => match x.ev t with | .int _ n => some (.int k (k.wrap n)) | _ => none
  | .mkFn f a b => some (.func f (evs t a) (evs t b))
  | .slice sh x lo hi mx => sliceV sh (x.ev t) (ev? t lo) (ev? t hi) (ev? t mx)
  | .fldA off sh x => match x.ev t with
    | .ptr k ver o => some (.ptr k ver (o + off))
    | .tptr (.agg cs) => (match partOf sh cs off with | some v => some (.tptr v) | none => none)
    | _ => none
  | .loadT sh x => loadTV sh (x.ev t)
  | .fld off sh x => match x.ev t with | .agg cs => partOf sh cs off | _ => none
  | .idxS sh x i => idxSV sh (x.ev t) (i.ev t)
  | .idxA n sh x i => idxAV n sh (x.ev t) (i.ev t)
  | .idx n sh x i => match x.ev t, natOf (i.ev t) with
    | .agg cs, some i => if Nat.blt i n then partOf sh cs (i * sh.size) else none
    | _, _ => none
  | .idxStr x i => match x.ev t, natOf (i.ev t) with
    | .str s, some i => (match s[i]? with | some b => some (.int .u8 b.toNat) | none => none)
    | _, _ => none
  | .ext i x => match x.ev t with | .tup vs => vs[i]? | _ => none
  | .lenA n => some (.int .i64 n)
  | .len x => match x.ev t with
    | .slT _ xs => some (.int .i64 xs.length)
    | .slR _ _ _ len _ _ => some (.int .i64 len)
    | _ => none
  | .cap x => match x.ev t with
    | .slT true xs => some (.int .i64 xs.length)
    | _ => none
  | .max l => maxV (evs t l)
  | .min l => minV (evs t l)
  | .nilchk x => match x.ev t with
    | .ptr k ver o => some (.ptr k ver o)
    | .tptr v => some (.tptr v)
    | .func f a b => some (.func f a b)
    | _ => none
  | _ => none

/-- reads memory -/
def memV (t : T) (os : Objs) : AOp → Option AV
  | .load sh x => match x.ev t with
    | .tptr v => loadTV sh (.tptr v)
    | p => loadV os sh p
  | .look zero kn m k ok => lookV os zero kn (m.ev t) (k.ev t) ok
  | .sliceA n sh x lo hi mx => sliceAV os n sh (x.ev t) (ev? t lo) (ev? t hi) (ev? t mx)
  | .lenM x => match x.ev t with
    | .mapR r => (match os.get r with | some (.map ks _) => some (.int .i64 ks.length) | _ => none)
    | _ => none
  | _ => none

/-- makes an object -/
def allocV (t : T) (os : Objs) (nk : Nat) : AOp → Option (AV × Option Obj)
  | .nilv sh => some (.slR nk 0 0 0 sh.size sh.ag, some (.arr 0 false []))
  | .alloc cells => some (.ptr nk 0 0, some (.arr 0 true cells))
  | .box x => if scalars (x.ev t).cells then some (.ptr nk 0 0, some (.arr 0 true (x.ev t).cells)) else none
  | .mkMap => some (.mapR nk, some (.map [] []))
  | .appN sh bytes x y => appNV os nk sh bytes (x.ev t) (y.ev t)
  | .appZ zero sh bytes x n => appZV nk zero sh bytes (x.ev t) (n.ev t)
  | .mkSlice zero sh bytes len cap => match natOf (len.ev t), natOf (cap.ev t) with
    | some l, some c => if Nat.ble l c && roomOk c bytes then some (.slR nk 0 0 l sh.size sh.ag, some (.arr 0 false (replicateCells zero c))) else none
    | _, _ => none
  | .mkSl zero sh len parts =>
    match fillV (replicateCells zero len) (parts.map fun (i, x) => (i * sh.size, sh.size, x.ev t)) with
    | some cs => match AV.datas cs with
      | some ds => (match elemsOf sh len ds with | some xs => some (.slT true xs, none) | none => none)
      | none => some (.slR nk 0 0 len sh.size sh.ag, some (.arr 0 false cs))
    | none => none
  | _ => none

/-- writes memory -/
def effV (t : T) (nk : Nat) (h : H) : AOp → Option (AV × H)
  | .store n p v => match storeV h n (p.ev t) (v.ev t) with | some h => some (.bot, h) | none => none
  | .mupd kn m k v => if scalars (v.ev t).cells then (match mupdV h kn (m.ev t) (k.ev t) (v.ev t) with | some h => some (.bot, h) | none => none) else none
  | .ment zero kn m k => mentV h zero kn (m.ev t) (k.ev t)
  | .estore m s v => match m.ev t, natOf (s.ev t) with
    | .mapR r, some i => if Nat.blt r h.ro then none else match h.objs.get r with
      | some (.map ks vs) => if Nat.blt i ks.length && scalars (v.ev t).cells then some (.bot, { h with objs := h.objs.set r (.map ks (vs.set i (v.ev t))) }) else none
      | _ => none
    | _, _ => none
  | .app sh bytes x y => appV h nk sh bytes (x.ev t) (y.ev t)
  | .clear zero x => match x.ev t with
    | .slT _ [] => some (.tup [], h)
    | .slR k ver off len w _ => if Nat.beq len 0 then some (.tup [], h) else if Nat.blt k h.ro then none else match h.objs.get k with
      | some (.arr ver' var cs) => if Nat.beq ver ver' && Nat.ble (off + len * w) cs.length && Nat.beq w zero.length then
          some (.tup [], { h with objs := h.objs.set k (.arr ver var (putAt cs off (replicateCells zero len))) }) else none
      | _ => none
    | _ => none
  | _ => none

def callV (call : CallF) (t : T) (h : H) : AOp → Option (AV × H)
  | .call md _ f args => match f.ev t with
    | .func id first cap => call md id (first ++ evs t args ++ cap) h
    | _ => none
  | _ => none

/-- which kind an operation is of -/
inductive Kd where
  | inert | mem | alloc | eff | effN | call | callE | none

def AOp.kd : AOp → Kd
  | .mov _ | .pick .. | .build .. | .bin .. | .un .. | .conv .. | .mkFn .. | .slice .. | .fldA .. | .loadT .. | .fld .. | .idxS .. | .idxA .. | .idx ..
  | .idxStr .. | .ext .. | .lenA _ | .len _ | .cap _ | .max _ | .min _ | .nilchk _ => .inert
  | .load .. | .look .. | .lenM _ | .sliceA .. => .mem
  | .nilv _ | .alloc _ | .box _ | .mkMap | .mkSlice .. | .mkSl .. | .appN .. | .appZ .. => .alloc
  | .store .. | .mupd .. | .ment .. | .estore .. | .app .. | .clear .. => .eff
  | .storeN .. => .effN
  | .call _ false _ _ => .call
  | .call _ true _ _ => .callE
  | .stuck => .none

/-- one operation, number j of a region whose keys begin at `base`; draw: what it may see is what was there before the region -/
def stepV (call : CallF) (draw : Bool) (base j : Nat) (t : T) (h : H) (op : AOp) : Option (AV × H) :=
  match op.kd with
  | .inert => match inertV t op with | some v => some (v, h) | none => none
  | .mem => match memV t (if draw then h.objs.view base else h.objs) op with | some v => some (v, h) | none => none
  | .alloc => match allocV t (if draw then h.objs.view base else h.objs) (base + j) op with
    | some (v, some o) => some (v, { h with objs := (base + j, o) :: h.objs })
    | some (v, none) => some (v, h)
    | none => none
  | .eff => effV t (base + j) h op
  | .effN => match op with
    | .storeN n p v => (match p.ev t with
      | .ptr k ver off => if Nat.ble base k then (match storeV h n (.ptr k ver off) (v.ev t) with | some h => some (.bot, h) | none => none) else none
      | _ => none)
    | _ => none
  | .call => if draw then
      (match callV call t { objs := h.objs.view base, cnt := h.cnt, ro := h.cnt } op with
       | some (v, h') => if Nat.beq h'.cnt h.cnt && AV.under base v then some (v, h) else none
       | none => none)
    else callV call t h op
  | .callE => if draw then
      (match callV call t h op with
       | some (v, h') => if Nat.beq h'.cnt h.cnt then some (v, h') else none
       | none => none)
    else callV call t h op
  | .none => none

/-- pointers that must lead to different objects -/
def exOk (t : T) : List (Nat × Nat) → Bool
  | [] => true
  | (p, q) :: r => (match t.get p, t.get q with | .ptr k _ _, .ptr k' _ _ => !(Nat.beq k k') | _, _ => false) && exOk t r

def runOps (call : CallF) (draw : Bool) (base : Nat) : Nat → List AOpr → T → H → Option (T × H)
  | _, [], t, h => some (t, h)
  | j, o :: r, t, h =>
    let go : Option (T × H) := match stepV call draw base j t h o.op with
      | some (v, h) => runOps call draw base (j + 1) r (t.put o.dst v) h
      | none => none
    match o.guard with
    | none => go
    | some (g, want) => match t.get g with
      | .bool b => if b == want then go else runOps call draw base (j + 1) r (t.put o.dst .bot) h
      | _ => none

def resultsV (t : T) (os : Objs) : List ResV → Option (List AV)
  | [] => some []
  | .t n :: r => match resultsV t os r with | some l => some (t.get n :: l) | none => none
  | .cell n sh :: r => match loadV os sh (t.get n) with
    | some v => (match resultsV t os r with | some l => some (v :: l) | none => none)
    | none => none

/-- the values of slices in memory as trees, nothing struck -/
def borrows (os : Objs) : List AV → Option (List AV)
  | [] => some []
  | v :: vs => match lendV os deep v with
    | some d => (match borrows os vs with | some ds => some (d :: ds) | none => none)
    | none => none

/-- an integer, a bool, a slice of its own: nothing that might lie in memory that was lent -/
def AV.own : AV → Bool
  | .int _ _ | .bool _ | .slR .. => true
  | .agg cs => cs.all fun | .int _ _ | .bool _ => true | _ => false
  | _ => false

def AV.ints : AV → Bool
  | .int _ _ | .bool _ => true
  | .agg cs => cs.all fun | .int _ _ | .bool _ => true | _ => false
  | _ => false

def AV.plain : AV → Bool
  | .int _ _ | .bool _ => true
  | .agg cs => cs.all fun | .int _ _ | .bool _ => true | _ => false
  | .slT _ xs => xs.all AV.ints
  | .tup vs => vs.all fun | .slT _ xs => xs.all AV.ints | v => v.ints
  | _ => false

def pack : List AV → AV
  | [v] => v
  | l => .tup l

def callInl (ex : AC → T → H → Option (Out × T × H)) (fn : AFunc) (args : List AV) (h : H) : Option (AV × H) :=
  match ex fn.body (T.ofArgs 0 args) h with
  | some (.exit _, _, _) => none
  | some (_, t, h') => (match resultsV t h'.objs fn.res with
    | some l => some (pack l, trim h.cnt [(0, pack l)] h')
    | none => none)
  | none => none

def callPure (ex : AC → T → H → Option (Out × T × H)) (fn : AFunc) (ds : List AV) : Option AV :=
  match ex fn.body (T.ofArgs 0 ds) { objs := [], cnt := 0, ro := 0 } with
  | some (.exit _, _, _) => none
  | some (_, t, h') => (match resultsV t h'.objs fn.res with
    | some l => (match freezeV 0 deep h'.objs (pack l) with | some (v, _) => some v | none => none)
    | none => none)
  | none => none

def callBor (ex : AC → T → H → Option (Out × T × H)) (fn : AFunc) (ds : List AV) : Option AV :=
  match ex fn.body (T.ofArgs 0 ds) { objs := [], cnt := 0, ro := 0 } with
  | some (.exit _, _, _) => none
  | some (_, t, h') => (match resultsV t h'.objs fn.res with
    | some l => if l.all AV.own then (match freezeV 0 deep h'.objs (pack l) with
      | some (v, _) => if v.plain then some v else none
      | none => none) else none
    | none => none)
  | none => none

def callBody (ex : AC → T → H → Option (Out × T × H)) (F : Tab) : CallF := fun md f args h =>
  match F f with
  | none => none
  | some (.prim p) => p args h
  | some (.code fn) =>
    match md with
    | .inl => callInl ex fn args h
    | .pure => match AV.datas args with
      | some ds => (match callPure ex fn ds with | some v => some (v, h) | none => none)
      | none => none
    | .auto => match AV.datas args with
      | some ds => (match callPure ex fn ds with | some v => some (v, h) | none => none)
      | none => callInl ex fn args h
    | .bor => match borrows h.objs args with
      | some ds => (match callBor ex fn ds with | some v => some (v, h) | none => none)
      | none => none

def exec (F : Tab) : Nat → AC → T → H → Option (Out × T × H)
  | 0, _, _, _ => none
  | _ + 1, .skip, t, h => some (.norm, t, h)
  | n + 1, .region fz ex ops draw live, t, h => match freezeT fz t h with
    | some (t, h) => if exOk t ex then (match runOps (callBody (exec F n) F) draw h.cnt 0 ops t { h with cnt := h.cnt + ops.length } with
      | some (t', h') => some (.norm, t'.scrub live, h')
      | none => none) else none
    | none => none
  | n + 1, .seq a b, t, h => match exec F n a t h with
    | some (.norm, t, h) => exec F n b t h
    | r => r
  | n + 1, .cond c a b live, t, h => match c.ev t with
    | .bool v => (match exec F n (if v then a else b) t h with
      | some (.norm, t', h') => some (.norm, t'.scrub live, trim h.cnt (t'.scrub live) h')
      | r => r)
    | _ => none
  | n + 1, .block id a live, t, h => match exec F n a t h with
    | some (.norm, t', h') => some (.norm, t'.scrub live, trim h.cnt (t'.scrub live) h')
    | some (.exit i, t', h') => if Nat.beq i id then some (.norm, t'.scrub live, trim h.cnt (t'.scrub live) h') else some (.exit i, t', h')
    | r => r
  | n + 1, .loop a live, t, h => match exec F n a (t.scrub live) h with
    | some (.norm, t', h') => exec F n (.loop a live) (t'.scrub live) (trim h.cnt (t'.scrub live) h')
    | r => r
  | _ + 1, .exit id, t, h => some (.exit id, t, h)
  | _ + 1, .ret, t, h => some (.ret, t, h)

def call (F : Tab) (n : Nat) : CallF := callBody (exec F n) F

end Go.Va
/-! Functions of the library that are given by hand to the abstract machine: definitions alone. -/
namespace Go.Va

/-- slices.Clone: a new row with the elements of a slice -/
def primCloneN (sh : Sh) (bytes : Nat) : List AV → H → Option (AV × H)
  | [x], h => match srcCells h.objs sh (h.cnt + 3) x with
    | some (n, src) => if Nat.beq n 0 then some (.slT false [], { h with cnt := h.cnt + 5 }) else
      if roomOk n bytes && scalars src then some (.slR (h.cnt + 3) 0 0 n sh.size sh.ag, { h with objs := (h.cnt + 3, .arr 0 false src) :: h.objs, cnt := h.cnt + 5 }) else none
    | none => none
  | _, _ => none

end Go.Va
/-! Answers kept by: definitions alone. -/
namespace Go.Va

mutual
def AV.eqb : AV → AV → Bool
  | .int k n, .int k' n' => decide (k = k') && decide (n = n')
  | .bool b, .bool c => b == c
  | .agg a, .agg b => AV.eqbs a b
  | .slT l a, .slT l' b => (l == l') && AV.eqbs a b
  | _, _ => false
def AV.eqbs : List AV → List AV → Bool
  | [], [] => true
  | a :: r, b :: s => AV.eqb a b && AV.eqbs r s
  | _, _ => false
end

/-- an answer that is known -/
def memo (args0 : List AV) (v : AV) : List AV → H → Option (AV × H) := fun args h => if AV.eqbs args args0 then some (v, h) else none

def Tab.over (F : Tab) (n : Nat) (p : List AV → H → Option (AV × H)) : Tab := fun f => if Nat.beq f n then some (.prim p) else F f

/-- a square with a square hole -/
def ringV : AV := .agg [.slT false [.slT false [.agg [.int .i64 0, .int .i64 0], .agg [.int .i64 4, .int .i64 0], .agg [.int .i64 4, .int .i64 4], .agg [.int .i64 0, .int .i64 4]],
  .slT false [.agg [.int .i64 1, .int .i64 1], .agg [.int .i64 1, .int .i64 3], .agg [.int .i64 3, .int .i64 3], .agg [.int .i64 3, .int .i64 1]]]]

end Go.Va
/-! Runs of the abstract machine along a given path: at a branch the path may say which way; what must hold for it is kept. -/
namespace Go.Va

abbrev Pa := List (Option Bool)
abbrev Cs := List (Bool × Bool)

def Good : Cs → Prop
  | [] => True
  | (a, b) :: r => a = b ∧ Good r

/-- which way? none: see for yourself -/
def consult : Pa → Bool → Option (Bool × Pa × Cs)
  | some b :: r, v => some (b, r, [(v, b)])
  | none :: r, true => some (true, r, [])
  | none :: r, false => some (false, r, [])
  | [], true => some (true, [], [])
  | [], false => some (false, [], [])

abbrev CallB := Md → FuncId → List AV → H → Pa → Option (AV × H × Pa × Cs)

def callVB (call : CallB) (t : T) (h : H) (f : Opd) (md : Md) (args : List Opd) (p : Pa) : Option (AV × H × Pa × Cs) :=
  match f.ev t with
  | .func id first cap => call md id (first ++ evs t args ++ cap) h p
  | _ => none

def stepB (call : CallB) (draw : Bool) (base j : Nat) (t : T) (h : H) (op : AOp) (p : Pa) : Option (AV × H × Pa × Cs) :=
  match op with
  | .pick c a b => match c.ev t with
    | .bool v => (match consult p v with
      | some (true, p, cs) => some (a.ev t, h, p, cs)
      | some (false, p, cs) => some (b.ev t, h, p, cs)
      | none => none)
    | _ => none
  | .call md false f args => (match draw with
    | true => (match callVB call t { objs := h.objs.view base, cnt := h.cnt, ro := h.cnt } f md args p with
      | some (v, h', p, cs) => if Nat.beq h'.cnt h.cnt && AV.under base v then some (v, h, p, cs) else none
      | none => none)
    | false => callVB call t h f md args p)
  | .call md true f args => (match draw with
    | true => (match callVB call t h f md args p with
      | some (v, h', p, cs) => if Nat.beq h'.cnt h.cnt then some (v, h', p, cs) else none
      | none => none)
    | false => callVB call t h f md args p)
  | op => match stepV (fun _ _ _ _ => none) draw base j t h op with
    | some (v, h) => some (v, h, p, [])
    | none => none

def runB (call : CallB) (draw : Bool) (base : Nat) : Nat → List AOpr → T → H → Pa → Option (T × H × Pa × Cs)
  | _, [], t, h, p => some (t, h, p, [])
  | j, o :: r, t, h, p =>
    match o.guard with
    | none => (match stepB call draw base j t h o.op p with
      | some (v, h, p, cs) => (match runB call draw base (j + 1) r (t.put o.dst v) h p with
        | some (t, h, p, cs') => some (t, h, p, cs ++ cs')
        | none => none)
      | none => none)
    | some (g, want) => match t.get g with
      | .bool b => (match consult p (b == want) with
        | some (true, p, cs0) => (match stepB call draw base j t h o.op p with
          | some (v, h, p, cs) => (match runB call draw base (j + 1) r (t.put o.dst v) h p with
            | some (t, h, p, cs') => some (t, h, p, cs0 ++ (cs ++ cs'))
            | none => none)
          | none => none)
        | some (false, p, cs0) => (match runB call draw base (j + 1) r (t.put o.dst .bot) h p with
          | some (t, h, p, cs') => some (t, h, p, cs0 ++ cs')
          | none => none)
        | none => none)
      | _ => none

abbrev ExecB := AC → T → H → Pa → Option (Out × T × H × Pa × Cs)

def callInlB (ex : ExecB) (fn : AFunc) (args : List AV) (h : H) (p : Pa) : Option (AV × H × Pa × Cs) :=
  match ex fn.body (T.ofArgs 0 args) h p with
  | some (.exit _, _) => none
  | some (_, t, h', p, cs) => (match resultsV t h'.objs fn.res with
    | some l => some (pack l, trim h.cnt [(0, pack l)] h', p, cs)
    | none => none)
  | none => none

def callPureB (ex : ExecB) (fn : AFunc) (ds : List AV) (p : Pa) : Option (AV × Pa × Cs) :=
  match ex fn.body (T.ofArgs 0 ds) { objs := [], cnt := 0, ro := 0 } p with
  | some (.exit _, _) => none
  | some (_, t, h', p, cs) => (match resultsV t h'.objs fn.res with
    | some l => (match freezeV 0 deep h'.objs (pack l) with | some (v, _) => some (v, p, cs) | none => none)
    | none => none)
  | none => none

def callBodyB (ex : ExecB) (F : Tab) : CallB := fun md f args h p =>
  match F f with
  | none => none
  | some (.prim q) => (match q args h with | some (v, h) => some (v, h, p, []) | none => none)
  | some (.code fn) =>
    match md with
    | .inl => callInlB ex fn args h p
    | .pure => match AV.datas args with
      | some ds => (match callPureB ex fn ds p with | some (v, p, cs) => some (v, h, p, cs) | none => none)
      | none => none
    | .auto => match AV.datas args with
      | some ds => (match callPureB ex fn ds p with | some (v, p, cs) => some (v, h, p, cs) | none => none)
      | none => callInlB ex fn args h p
    | .bor => none

def execB (F : Tab) : Nat → ExecB
  | 0, _, _, _, _ => none
  | _ + 1, .skip, t, h, p => some (.norm, t, h, p, [])
  | n + 1, .region fz ex ops draw live, t, h, p => match freezeT fz t h with
    | some (t, h) => if exOk t ex then (match runB (callBodyB (execB F n) F) draw h.cnt 0 ops t { h with cnt := h.cnt + ops.length } p with
      | some (t', h', p, cs) => some (.norm, t'.scrub live, h', p, cs)
      | none => none) else none
    | none => none
  | n + 1, .seq a b, t, h, p => match execB F n a t h p with
    | some (.norm, t, h, p, cs) => (match execB F n b t h p with
      | some (out, t, h, p, cs') => some (out, t, h, p, cs ++ cs')
      | none => none)
    | r => r
  | n + 1, .cond c a b live, t, h, p => match c.ev t with
    | .bool v => (match consult p v with
      | some (w, p, cs) => (match execB F n (match w with | true => a | false => b) t h p with
        | some (.norm, t', h', p, cs') => some (.norm, t'.scrub live, trim h.cnt (t'.scrub live) h', p, cs ++ cs')
        | some (out, t', h', p, cs') => some (out, t', h', p, cs ++ cs')
        | none => none)
      | none => none)
    | _ => none
  | n + 1, .block id a live, t, h, p => match execB F n a t h p with
    | some (.norm, t', h', p, cs) => some (.norm, t'.scrub live, trim h.cnt (t'.scrub live) h', p, cs)
    | some (.exit i, t', h', p, cs) => if Nat.beq i id then some (.norm, t'.scrub live, trim h.cnt (t'.scrub live) h', p, cs) else some (.exit i, t', h', p, cs)
    | r => r
  | n + 1, .loop a live, t, h, p => match execB F n a (t.scrub live) h p with
    | some (.norm, t', h', p, cs) => (match execB F n (.loop a live) (t'.scrub live) (trim h.cnt (t'.scrub live) h') p with
      | some (out, t, h, p, cs') => some (out, t, h, p, cs ++ cs')
      | none => none)
    | r => r
  | _ + 1, .exit id, t, h, p => some (.exit id, t, h, p, [])
  | _ + 1, .ret, t, h, p => some (.ret, t, h, p, [])

end Go.Va
