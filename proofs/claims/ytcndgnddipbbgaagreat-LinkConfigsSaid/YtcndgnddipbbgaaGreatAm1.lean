/-
  THE ABSTRACT MACHINE, part 1 of its text: values, heap, operations, code, calls. Plain definitions, no program in sight.
  Conditions: none (definitions).
-/
import GoSem.Op.String
import GoSem.Core.View
import GoSem.Core.Utf8
set_option linter.unusedVariables false
namespace Go.Proofs.YtcndgnddipbbgaaGreat
namespace Am

/-- Whole numbers (i64) of which only this is known: what is left under a mask; what a mask and then a division leave; what a division leaves. -/
inductive Z where
  | band (m r : Int)
  | brem (m d r : Int)
  | rem (d r : Int)
  deriving DecidableEq

/-- Values: addresses are numbers of objects of the abstract heap, with an offset; a slice's capacity is known or not. -/
inductive V where
  | b (x : Bool)
  | i (k : IntKind) (n : Int)
  | s (l : List UInt8)
  | p (a : Option (Nat × Nat))
  | sl (a : Option (Nat × Nat)) (len : Nat) (cap : Option Nat) (sz : Nat)
  | m (r : Option Nat)
  | f (fn : Nat) (cs : List V)
  | nf
  | ic (t : Nat) (x : V)
  | ni
  | g (l : List V)
  | t (l : List V)
  | z (c : Z)

abbrev un : V := .t []

def V.one : V → Bool
  | .g _ => false
  | .t _ => false
  | _ => true

def V.cells : V → List V
  | .g l => l
  | v => [v]

def same1 : V → V → Bool
  | .b x, .b y => x == y
  | .i k n, .i k' n' => decide (k = k') && n == n'
  | .s a, .s b => a == b
  | .p a, .p b => a == b
  | .sl a n c z, .sl a' n' c' z' => a == a' && n == n' && c == c' && z == z'
  | .m a, .m b => a == b
  | .nf, .nf => true
  | .ni, .ni => true
  | .z a, .z b => decide (a = b)
  | _, _ => false

def sameL : List V → List V → Bool
  | [], [] => true
  | a :: l, b :: r => same1 a b && sameL l r
  | _, _ => false

def same : V → V → Bool
  | .g l, .g r => sameL l r
  | .t l, .t r => sameL l r
  | a, b => same1 a b

/-- Objects: a row of cells (is it only read? of which type is its block, if that is known?), a map, a string that is ranged over, one that nobody may look at. -/
inductive Obj where
  | cells (vs : List V) (ro : Bool) (ty : Option Nat)
  | map (es : List (V × V))
  | str (l : List UInt8) (pos : Nat)
  | dead

abbrev Heap := List Obj

def getCells (h : Heap) (id off n : Nat) : Option (List V) :=
  match h[id]? with
  | some (.cells vs _ _) => if off + n ≤ vs.length then some ((vs.drop off).take n) else none
  | _ => none

def splice (vs : List V) (off : Nat) (us : List V) : List V := vs.take off ++ us ++ vs.drop (off + us.length)

def setCells (h : Heap) (id off : Nat) (us : List V) : Option Heap :=
  match h[id]? with
  | some (.cells vs false ty) => if off + us.length ≤ vs.length then some (h.set id (.cells (splice vs off us) false ty)) else none
  | _ => none

inductive Opd where
  | tm (n : Nat)
  | k (v : V)
  | fn (f : Nat)
  | gl (id : Nat)

def ev (fr : List V) : Opd → V
  | .tm n => fr.getD n un
  | .k v => v
  | .fn f => .f f []
  | .gl id => .p (some (id, 0))

/-- What a map's keys are. -/
inductive KeyK where
  | int | str | bool
  | arr (n : Nat)

inductive LenK where
  | str | slice | map | cap

inductive EqK where
  | bool | ptr | slice | map | func | iface | ifn

inductive AOp where
  | mv (x : Opd)
  | pick (c a b : Opd)
  | box (x : Opd)
  | alloc (z : List V) (ty : Nat)
  | build (z : List V) (parts : List (Nat × Nat × Opd))
  | bslice (sz : Nat) (z : List V) (len : Nat) (parts : List (Nat × Opd))
  | load (agg : Bool) (n : Nat) (x : Opd)
  | store (n : Nat) (a x : Opd)
  | nilck (x : Opd)
  | bin (op : BinOp) (x y : Opd)
  | eq (neg : Bool) (k : EqK) (x y : Opd)
  | un (op : UnOp) (x : Opd)
  | convI (k : IntKind) (x : Opd)
  | convS (x : Opd)
  | convBS (x : Opd)
  | convSB (x : Opd)
  | mkfn (f : Nat) (cs : List Opd)
  | mkmap
  | mkslice (sz bytes : Nat) (z : List V) (len cap : Opd)
  | sliceS (x : Opd) (lo hi : Option Opd)
  | sliceL (sz : Nat) (x : Opd) (lo hi mx : Option Opd)
  | sliceA (n sz : Nat) (x : Opd) (lo hi : Option Opd)
  | faddr (off : Nat) (x : Opd)
  | field (off sz : Nat) (agg : Bool) (x : Opd)
  | iaddrL (sz : Nat) (x i : Opd)
  | iaddrA (len sz : Nat) (x i : Opd)
  | indexA (len sz : Nat) (agg : Bool) (x i : Opd)
  | indexS (x i : Opd)
  | lookup (kk : KeyK) (z : V) (x k : Opd) (ok : Bool)
  | mupd (kk : KeyK) (m k x : Opd)
  | extract (x : Opd) (i : Nat)
  | append (str : Bool) (sz bytes : Nat) (x y : Opd)
  | appendT (e : Nat) (str : Bool) (sz bytes : Nat) (x y : Opd)
  | len (k : LenK) (x : Opd)
  | delete (kk : KeyK) (m k : Opd)
  | mxmn (mx : Bool) (xs : List Opd)
  | mkif (t : Nat) (x : Opd)
  | range (x : Opd)
  | next (x : Opd)
  | stuck
  | eqG (neg : Bool) (ks : List KeyK) (x y : Opd)
  | copyL (sz : Nat) (x y : Opd)
  | clearL (sz : Nat) (z : List V) (x : Opd)

def binI (op : BinOp) (k : IntKind) (a b : Int) : Option V :=
  match op with
  | .add => some (.i k (k.wrap (a + b)))
  | .sub => some (.i k (k.wrap (a - b)))
  | .mul => some (.i k (k.wrap (a * b)))
  | .quo => if b = 0 then none else some (.i k (k.wrap (a.tdiv b)))
  | .rem => if b = 0 then none else some (.i k (a.tmod b))
  | .and => some (.i k (k.wrap (BitVec.ofInt k.bits a &&& BitVec.ofInt k.bits b).toNat))
  | .or => some (.i k (k.wrap (BitVec.ofInt k.bits a ||| BitVec.ofInt k.bits b).toNat))
  | .xor => some (.i k (k.wrap (BitVec.ofInt k.bits a ^^^ BitVec.ofInt k.bits b).toNat))
  | .andNot => some (.i k (k.wrap (BitVec.ofInt k.bits a &&& ~~~BitVec.ofInt k.bits b).toNat))
  | .eql => some (.b (a == b))
  | .neq => some (.b (a != b))
  | .lss => some (.b (a < b))
  | .leq => some (.b (a ≤ b))
  | .gtr => some (.b (a > b))
  | .geq => some (.b (a ≥ b))
  | _ => none

def shiftI (op : BinOp) (k : IntKind) (a b : Int) : Option V :=
  if b < 0 then none else
  match op with
  | .shl => some (.i k (k.wrap (a * 2 ^ min b.toNat k.bits)))
  | .shr => some (.i k (a.fdiv (2 ^ min b.toNat k.bits)))
  | _ => none

def binStr (op : BinOp) (a b : List UInt8) : Option V :=
  match op with
  | .add => if a.length + b.length ≤ 4611686018427387904 then some (.s (a ++ b)) else none
  | .eql => some (.b (a == b))
  | .neq => some (.b !(a == b))
  | .lss => some (.b (Op.bytesLess a b))
  | .leq => some (.b (Op.bytesLess a b || a == b))
  | .gtr => some (.b !(Op.bytesLess a b || a == b))
  | .geq => some (.b !(Op.bytesLess a b))
  | _ => none

def Z.holds : Z → Int → Prop
  | .band m r, n => binI .and .i64 n m = some (.i .i64 r)
  | .brem m d r, n => ∃ q, binI .and .i64 n m = some (.i .i64 q) ∧ binI .rem .i64 q d = some (.i .i64 r)
  | .rem d r, n => binI .rem .i64 n d = some (.i .i64 r)

def zV (op : BinOp) (c : Z) (b : Int) : Option V :=
  match op, c with
  | .and, .band m r => if b = m then some (.i .i64 r) else none
  | .and, .brem m d r => if b = m then some (.z (.rem d r)) else none
  | .rem, .rem d r => if b = d then some (.i .i64 r) else none
  | _, _ => none

def binV (op : BinOp) : V → V → Option V
  | .i k a, .i k' b =>
    match op with
    | .shl => shiftI .shl k a b
    | .shr => shiftI .shr k a b
    | op => if k = k' then binI op k a b else none
  | .s a, .s b => binStr op a b
  | .z c, .i .i64 b => zV op c b
  | _, _ => none

def eqV : EqK → V → V → Option Bool
  | .bool, .b x, .b y => some (x == y)
  | .ptr, .p none, .p b => some b.isNone
  | .ptr, .p a, .p none => some a.isNone
  | .slice, .sl none _ _ _, .sl b _ _ _ => some b.isNone
  | .slice, .sl a _ _ _, .sl none _ _ _ => some a.isNone
  | .map, .m none, .m b => some b.isNone
  | .map, .m a, .m none => some a.isNone
  | .func, .nf, .nf => some true
  | .func, .nf, .f _ _ => some false
  | .func, .f _ _, .nf => some false
  | .iface, .ni, .ic _ _ => some false
  | .iface, .ic _ _, .ni => some false
  | .ifn, .ni, .ni => some true
  | .ifn, .ni, .ic _ _ => some false
  | .ifn, .ic _ _, .ni => some false
  | _, _, _ => none

def unV (op : UnOp) : V → Option V
  | .i k n =>
    match op with
    | .neg => some (.i k (k.wrap (0 - n)))
    | .xor => some (.i k (k.wrap (BitVec.ofInt k.bits (if k.signed then -1 else k.max) ^^^ BitVec.ofInt k.bits n).toNat))
    | _ => none
  | .b x =>
    match op with
    | .not => some (.b !x)
    | _ => none
  | _ => none

def fillS (cells : List V) : List (Nat × Nat × V) → Option (List V)
  | [] => some cells
  | (off, size, v) :: rest =>
    if v.cells.length = size ∧ off + size ≤ cells.length then fillS (splice cells off v.cells) rest else none

def reps (z : List V) : Nat → List V
  | 0 => []
  | n + 1 => z ++ reps z n

def partS (agg : Bool) (cs : List V) (off sz : Nat) : Option V :=
  if agg then (if off + sz ≤ cs.length then some (.g ((cs.drop off).take sz)) else none) else cs[off]?

def natOf : V → Option Nat
  | .i _ n => if 0 ≤ n then some n.toNat else none
  | _ => none

def bound (fr : List V) (o : Option Opd) (d : Nat) : Option Nat :=
  match o with
  | none => some d
  | some x => natOf (ev fr x)

def intsEq : List V → List V → Option Bool
  | [], [] => some true
  | .i k a :: l, .i k' b :: r => if k = k' then (if a == b then intsEq l r else some false) else none
  | _, _ => none

def keyEq : V → V → Option Bool
  | .i k a, .i k' b => if k = k' then some (a == b) else none
  | .s a, .s b => some (a == b)
  | .b a, .b b => some (a == b)
  | .g l, .g r => intsEq l r
  | _, _ => none

def V.isInt : V → Bool
  | .i _ _ => true
  | _ => false

def keyFit : KeyK → V → Bool
  | .int, .i _ _ => true
  | .str, .s _ => true
  | .bool, .b _ => true
  | .arr n, .g l => l.length == n && l.all V.isInt
  | _, _ => false

/-- Are two structs' cells the same? -/
def eqCells : List KeyK → List V → List V → Option Bool
  | [], [], [] => some true
  | kk :: ks, a :: l, b :: r =>
    if keyFit kk a && keyFit kk b then
      match keyEq a b with
      | some true => eqCells ks l r
      | some false => some false
      | none => none
    else none
  | _, _, _ => none
def eqGV (ks : List KeyK) : V → V → Option Bool
  | .g l, .g r => eqCells ks l r
  | _, _ => none

def findK (k : V) : List (V × V) → Nat → Option (Option (Nat × V))
  | [], _ => some none
  | e :: es, n =>
    match keyEq k e.1 with
    | some true => some (some (n, e.2))
    | some false => findK k es (n + 1)
    | none => none

def bytesV (l : List UInt8) : List V := l.map fun c => .i .u8 c.toNat

def bytesOf : List V → Option (List UInt8)
  | [] => some []
  | .i .u8 n :: r => (bytesOf r).map (UInt8.ofNat n.toNat :: ·)
  | _ => none

def appSrc (h : Heap) (str : Bool) (sz : Nat) : V → Option (Nat × List V)
  | .sl none 0 _ _ => if str then none else some (0, [])
  | .sl (some (id, off)) n _ z => if str then none else if z = sz then (getCells h id off (n * sz)).map (n, ·) else none
  | .s l => if str ∧ sz = 1 then some (l.length, bytesV l) else none
  | _ => none

def rwOk (h : Heap) (id : Nat) : Bool :=
  match h[id]? with
  | some (.cells _ false _) => true
  | _ => false

/-- The type of the block behind an append into the old block. -/
def tagOf (tg : Option Nat) (h : Heap) (id off len : Nat) : Option Nat :=
  match tg with
  | none => none
  | some e =>
    match h[id]? with
    | some (.cells _ _ (some t)) => if t = e ∧ off = 0 ∧ 0 < len then some e else none
    | _ => none

def appendG (tg : Option Nat) (h : Heap) (str : Bool) (sz bytes : Nat) (x y : V) : Option (V × Heap) :=
  match x with
  | .sl a len cap z =>
    match appSrc h str sz y with
    | none => none
    | some (n, news) =>
      if n = 0 then some (x, h) else
      if (len + n) * bytes > 35184372088832 ∨ len + n > 35184372088832 then none else
      match a with
      | none => if len = 0 then some (.sl (some (h.length, 0)) n none sz, h ++ [.cells news false tg]) else none
      | some (id, off) =>
        if z ≠ sz then none else
        match getCells h id off (len * sz) with
        | none => none
        | some old =>
          match cap with
          | some c =>
            if len + n ≤ c then
              (setCells h id (off + len * sz) news).map fun h' => (.sl (some (id, off)) (len + n) (some c) sz, h')
            else some (.sl (some (h.length, 0)) (len + n) none sz, h ++ [.cells (old ++ news) false tg])
          | none =>
            if rwOk h id then some (.sl (some (h.length, 0)) (len + n) none sz, h.set id .dead ++ [.cells (old ++ news) false (tagOf tg h id off len)]) else none
  | _ => none

def appendS (h : Heap) (str : Bool) (sz bytes : Nat) (x y : V) : Option (V × Heap) := appendG none h str sz bytes x y

def lenV (h : Heap) : LenK → V → Option Nat
  | .str, .s l => some l.length
  | .slice, .sl _ n _ _ => some n
  | .cap, .sl _ _ c _ => c
  | .map, .m none => some 0
  | .map, .m (some id) =>
    match h[id]? with
    | some (.map es) => some es.length
    | _ => none
  | _, _ => none

def intsMax (mx : Bool) (k : IntKind) (x : Int) : List V → Option V
  | [] => some (.i k x)
  | .i _ y :: r => intsMax mx k (if mx then (if y > x then y else x) else (if y < x then y else x)) r
  | _ => none

/-- What makes one new object: the object, and the value, by the object's number. -/
def allocS (o : AOp) (fr : List V) : Option (Obj × (Nat → V)) :=
  match o with
  | .box x => if (ev fr x).cells.all V.one then some (.cells (ev fr x).cells false none, fun id => .p (some (id, 0))) else none
  | .alloc z ty => some (.cells z false (some ty), fun id => .p (some (id, 0)))
  | .bslice sz z len parts =>
    if len * sz ≤ 16777216 then
      (fillS (reps z len) (parts.map fun q => (q.1 * sz, sz, ev fr q.2))).bind fun cs =>
        if cs.all V.one then some (.cells cs false none, fun id => .sl (some (id, 0)) len (some len) sz) else none
    else none
  | .convSB x =>
    match ev fr x with
    | .s l => if l.length ≤ 35184372088832 then some (.cells (bytesV l) false none, fun id => .sl (some (id, 0)) l.length none 1) else none
    | _ => none
  | .mkmap => some (.map [], fun id => .m (some id))
  | .mkslice sz bytes z len cap =>
    match ev fr len, ev fr cap with
    | .i _ l, .i _ c =>
      if 0 ≤ l ∧ l ≤ c ∧ c ≤ 16777216 ∧ (bytes : Int) * c ≤ 35184372088832 then
        some (.cells (reps z c.toNat) false none, fun id => .sl (some (id, 0)) l.toNat (some c.toNat) sz)
      else none
    | _, _ => none
  | .range x =>
    match ev fr x with
    | .s l => some (.str l 0, fun id => .p (some (id, 0)))
    | _ => none
  | _ => none

def opS (o : AOp) (fr : List V) (h : Heap) : Option (V × Heap) :=
  match o with
  | .mv x => some (ev fr x, h)
  | .pick c a b =>
    match ev fr c with
    | .b true => some (ev fr a, h)
    | .b false => some (ev fr b, h)
    | _ => none
  | .box _ | .alloc .. | .bslice .. | .convSB _ | .mkmap | .mkslice .. | .range _ => (allocS o fr).map fun q => (q.2 h.length, h ++ [q.1])
  | .build z parts => (fillS z (parts.map fun q => (q.1, q.2.1, ev fr q.2.2))).map fun cs => (.g cs, h)
  | .load agg n x =>
    match ev fr x with
    | .p (some (id, off)) =>
      match getCells h id off n with
      | some cs => if agg then some (.g cs, h) else cs[0]?.map (·, h)
      | none => none
    | _ => none
  | .store n a x =>
    match ev fr a with
    | .p (some (id, off)) =>
      if (ev fr x).cells.length = n ∧ (ev fr x).cells.all V.one then (setCells h id off (ev fr x).cells).map (un, ·) else none
    | _ => none
  | .nilck x =>
    match ev fr x with
    | .p none => none
    | .ni => none
    | .nf => none
    | v => some (v, h)
  | .bin op x y => (binV op (ev fr x) (ev fr y)).map (·, h)
  | .eq neg k x y => (eqV k (ev fr x) (ev fr y)).map fun r => (.b (if neg then !r else r), h)
  | .un op x => (unV op (ev fr x)).map (·, h)
  | .convI k x =>
    match ev fr x with
    | .i _ n => some (.i k (k.wrap n), h)
    | _ => none
  | .convS x =>
    match ev fr x with
    | .s l => some (.s l, h)
    | _ => none
  | .convBS x =>
    match ev fr x with
    | .sl none _ _ _ => some (.s [], h)
    | .sl (some (id, off)) n _ _ => ((getCells h id off n).bind bytesOf).map fun l => (.s l, h)
    | _ => none
  | .mkfn f cs => some (.f f (cs.map (ev fr)), h)
  | .sliceS x lo hi =>
    match ev fr x with
    | .s l =>
      match bound fr lo 0, bound fr hi l.length with
      | some a, some b => if a ≤ b ∧ b ≤ l.length then some (.s ((l.take b).drop a), h) else none
      | _, _ => none
    | _ => none
  | .sliceL sz x lo hi mx =>
    match ev fr x with
    | .sl a len cap z =>
      match bound fr lo 0, bound fr hi len, bound fr mx (cap.getD len) with
      | some l, some u, some m =>
        if l ≤ u ∧ u ≤ m ∧ m ≤ cap.getD len ∧ (mx.isSome → hi.isSome) ∧ (a.isSome → z = sz) then
          some (.sl (a.map fun q => (q.1, q.2 + l * sz)) (u - l) (if mx.isSome then some (m - l) else cap.map (· - l)) z, h)
        else none
      | _, _, _ => none
    | _ => none
  | .sliceA n sz x lo hi =>
    match ev fr x with
    | .p (some (id, off)) =>
      match bound fr lo 0, bound fr hi n with
      | some l, some u =>
        if l ≤ u ∧ u ≤ n ∧ (getCells h id off (n * sz)).isSome then some (.sl (some (id, off + l * sz)) (u - l) (some (n - l)) sz, h) else none
      | _, _ => none
    | _ => none
  | .faddr off x =>
    match ev fr x with
    | .p (some (id, o)) => some (.p (some (id, o + off)), h)
    | _ => none
  | .field off sz agg x =>
    match ev fr x with
    | .g cs => (partS agg cs off sz).map (·, h)
    | _ => none
  | .iaddrL sz x i =>
    match ev fr x, natOf (ev fr i) with
    | .sl (some (id, off)) len _ z, some n => if n < len ∧ z = sz then some (.p (some (id, off + n * sz)), h) else none
    | _, _ => none
  | .iaddrA len sz x i =>
    match ev fr x, natOf (ev fr i) with
    | .p (some (id, off)), some n => if n < len then some (.p (some (id, off + n * sz)), h) else none
    | _, _ => none
  | .indexA len sz agg x i =>
    match ev fr x, natOf (ev fr i) with
    | .g cs, some n => if n < len then (partS agg cs (n * sz) sz).map (·, h) else none
    | _, _ => none
  | .indexS x i =>
    match ev fr x, natOf (ev fr i) with
    | .s l, some n => (l[n]?).map fun c => (.i .u8 c.toNat, h)
    | _, _ => none
  | .lookup kk z x k ok =>
    if !keyFit kk (ev fr k) then none else
    match ev fr x with
    | .m none => some (if ok then .t [z, .b false] else z, h)
    | .m (some id) =>
      match h[id]? with
      | some (.map es) =>
        match findK (ev fr k) es 0 with
        | some (some (_, v)) => some (if ok then .t [v, .b true] else v, h)
        | some none => some (if ok then .t [z, .b false] else z, h)
        | none => none
      | _ => none
    | _ => none
  | .mupd kk m k x =>
    if !keyFit kk (ev fr k) then none else
    match ev fr m with
    | .m (some id) =>
      match h[id]? with
      | some (.map es) =>
        match findK (ev fr k) es 0 with
        | some (some (n, _)) => some (un, h.set id (.map (es.set n (ev fr k, ev fr x))))
        | some none => some (un, h.set id (.map (es ++ [(ev fr k, ev fr x)])))
        | none => none
      | _ => none
    | _ => none
  | .extract x i =>
    match ev fr x with
    | .t l => (l[i]?).map (·, h)
    | _ => none
  | .append str sz bytes x y => appendG none h str sz bytes (ev fr x) (ev fr y)
  | .appendT e str sz bytes x y => appendG (some e) h str sz bytes (ev fr x) (ev fr y)
  | .len k x => (lenV h k (ev fr x)).map fun (n : Nat) => (.i .i64 (n : Int), h)
  | .delete kk m k =>
    if !keyFit kk (ev fr k) then none else
    match ev fr m with
    | .m none => some (un, h)
    | .m (some id) =>
      match h[id]? with
      | some (.map es) =>
        match findK (ev fr k) es 0 with
        | some (some (n, _)) => some (un, h.set id (.map (es.eraseIdx n)))
        | some none => some (un, h)
        | none => none
      | _ => none
    | _ => none
  | .mxmn mx xs =>
    match xs.map (ev fr) with
    | .i k x :: r => (intsMax mx k x r).map (·, h)
    | _ => none
  | .mkif t x => some (.ic t (ev fr x), h)
  | .stuck => none
  | .eqG neg ks x y => (eqGV ks (ev fr x) (ev fr y)).map fun r => (.b (if neg then !r else r), h)
  | .copyL sz x y =>
    match ev fr x, ev fr y with
    | .sl a dl _ z, .sl b sl _ z' =>
      if min sl dl = 0 then some (.i .i64 0, h) else
      match a, b with
      | some (id, off), some (id', off') =>
        if z = sz ∧ z' = sz then
          match getCells h id' off' (min sl dl * sz) with
          | some cs => if cs.all V.one then (setCells h id off cs).map (.i .i64 (min sl dl : Nat), ·) else none
          | none => none
        else none
      | _, _ => none
    | _, _ => none
  | .clearL sz z x =>
    match ev fr x with
    | .sl none _ _ _ => some (un, h)
    | .sl (some (id, off)) n _ z' => if n = 0 then some (un, h) else if z' = sz ∧ z.length = sz ∧ z.all V.one then (setCells h id off (reps z n)).map (un, ·) else none
    | _ => none
  | .next x =>
    match ev fr x with
    | .p (some (id, 0)) =>
      match h[id]? with
      | some (.str l pos) =>
        if pos < l.length then some (.t [.b true, .i .i64 pos, .i .i32 (Utf8.decode ⟨l.toArray⟩ pos).1], h.set id (.str l (pos + (Utf8.decode ⟨l.toArray⟩ pos).2)))
        else some (.t [.b false], h)
      | _ => none
    | _ => none

/-- What a region's step does. -/
inductive Act' where
  | op (o : AOp)
  | callf (f : Nat) (xs : List Opd)
  | callv (x : Opd) (xs : List Opd)

structure COp where
  dst : Option Nat
  act : Act'
  gd : Option (Nat × Bool)

inductive C where
  | skip
  | reg (ops : List COp)
  | draw (ops : List COp) (chk ach : List (Nat × List Nat))
  | seq (a b : C)
  | cond (c : Opd) (a b : C)
  | blk (id : Nat) (a : C)
  | loop (a : C)
  | exit (id : Nat)
  | ret

inductive X where
  | nrm
  | ret
  | ex (id : Nat)

abbrev Env := Nat → List V → Heap → Option (V × Heap)

def wants (fr : List V) : Option (Nat × Bool) → Bool
  | none => true
  | some (t, w) =>
    match fr[t]? with
    | some (.b x) => x == w
    | _ => false

def put (fr : List V) (d : Option Nat) (v : V) : List V :=
  match d with
  | some d => fr.set d v
  | none => fr

def actS (E : Env) (a : Act') (fr : List V) (h : Heap) : Option (V × Heap) :=
  match a with
  | .op o => opS o fr h
  | .callf f xs => E f (xs.map (ev fr)) h
  | .callv x xs =>
    match ev fr x with
    | .f f cs => E f (xs.map (ev fr) ++ cs) h
    | _ => none

def stepS (E : Env) (o : COp) (fr : List V) (h : Heap) : Option (V × Heap) :=
  if wants fr o.gd then actS E o.act fr h else some (un, h)

def runOps (E : Env) : List COp → List V → Heap → Option (List V × Heap)
  | [], fr, h => some (fr, h)
  | o :: r, fr, h =>
    match stepS E o fr h with
    | some (v, h') => runOps E r (put fr o.dst v) h'
    | none => none

/-- All states ahead of each step, and behind the last one. -/
def trace (E : Env) : List COp → List V → Heap → Option (List (List V × Heap))
  | [], fr, h => some [(fr, h)]
  | o :: r, fr, h =>
    match stepS E o fr h with
    | some (v, h') => (trace E r (put fr o.dst v) h').map ((fr, h) :: ·)
    | none => none

def readAt (o : COp) (fr : List V) (h : Heap) : Option V :=
  match o.act with
  | .op q => (opS q fr h).map (·.1)
  | _ => none

def sameO : Option V → Option V → Bool
  | some a, some b => same a b
  | _, _ => false

def chkOne (ops : List COp) (tr : List (List V × Heap)) (q : Nat × List Nat) : Bool :=
  match ops[q.1]?, tr[q.1]? with
  | some o, some (fr, h) =>
    !wants fr o.gd || q.2.all fun j =>
      match tr[j]? with
      | some (_, h') => sameO (readAt o fr h) (readAt o fr h')
      | none => false
  | _, _ => false

def sameP : List (V × V) → List (V × V) → Bool
  | [], [] => true
  | a :: l, b :: r => same1 a.1 b.1 && same1 a.2 b.2 && sameP l r
  | _, _ => false

def sameObj : Option Obj → Option Obj → Bool
  | some (.cells a r t), some (.cells b r' t') => sameL a b && r == r' && t == t'
  | some (.map a), some (.map b) => sameP a b
  | some (.str a p), some (.str b q) => a == b && p == q
  | _, _ => false

/-- A new object is as it was made. -/
def achOne (ops : List COp) (tr : List (List V × Heap)) (q : Nat × List Nat) : Bool :=
  match ops[q.1]?, tr[q.1]?, tr[q.1 + 1]? with
  | some o, some (fr, h), some (_, h1) =>
    !wants fr o.gd || q.2.all fun j =>
      match tr[j]? with
      | some (_, h') => sameObj h1[h.length]? h'[h.length]?
      | none => false
  | _, _, _ => false

def iter (f : List V → Heap → Option (X × List V × Heap)) : Nat → List V → Heap → Option (X × List V × Heap)
  | 0, _, _ => none
  | n + 1, fr, h =>
    match f fr h with
    | some (.nrm, fr', h') => iter f n fr' h'
    | r => r

def exec (E : Env) (n : Nat) : C → List V → Heap → Option (X × List V × Heap)
  | .skip, fr, h => some (.nrm, fr, h)
  | .reg ops, fr, h => (runOps E ops fr h).map fun r => (.nrm, r.1, r.2)
  | .draw ops chk ach, fr, h =>
    match runOps E ops fr h with
    | none => none
    | some r =>
      if chk.isEmpty && ach.isEmpty then some (.nrm, r.1, r.2) else
      match trace E ops fr h with
      | none => none
      | some tr => if chk.all (chkOne ops tr) && ach.all (achOne ops tr) then some (.nrm, r.1, r.2) else none
  | .seq a b, fr, h =>
    match exec E n a fr h with
    | some (.nrm, fr', h') => exec E n b fr' h'
    | r => r
  | .cond c a b, fr, h =>
    match ev fr c with
    | .b true => exec E n a fr h
    | .b false => exec E n b fr h
    | _ => none
  | .blk id a, fr, h =>
    match exec E n a fr h with
    | some (.ex j, fr', h') => if j = id then some (.nrm, fr', h') else some (.ex j, fr', h')
    | r => r
  | .loop a, fr, h => iter (exec E n a) n fr h
  | .exit id, fr, h => some (.ex id, fr, h)
  | .ret, fr, h => some (.ret, fr, h)

/-- What a result lies in: a slot; a variable behind a slot (is it many cells? how many). -/
inductive RV where
  | tm (t : Nat)
  | cell (t : Nat) (agg : Bool) (n : Nat)

structure CF where
  nt : Nat
  res : List RV
  body : C

def resOne (fr : List V) (h : Heap) : RV → Option V
  | .tm t => some (fr.getD t un)
  | .cell t agg n =>
    match fr.getD t un with
    | .p (some (id, off)) =>
      match getCells h id off n with
      | some cs => if agg then some (.g cs) else cs[0]?
      | none => none
    | _ => none

def resAll (fr : List V) (h : Heap) : List RV → Option (List V)
  | [] => some []
  | r :: rs =>
    match resOne fr h r, resAll fr h rs with
    | some v, some vs => some (v :: vs)
    | _, _ => none

def resV (fr : List V) (h : Heap) (rs : List RV) : Option V :=
  (resAll fr h rs).map fun
    | [v] => v
    | vs => .t vs

def frame0 (nt : Nat) (args : List V) : List V := args ++ List.replicate (nt - args.length) un

def call (O : Nat → Option (List V → Heap → Option (V × Heap))) (F : Nat → Option CF) : Nat → Env
  | 0, _, _, _ => none
  | n + 1, f, args, h =>
    match O f with
    | some g => g args h
    | none =>
      match F f with
      | none => none
      | some c =>
        match exec (call O F n) n c.body (frame0 c.nt args) h with
        | some (.nrm, fr, h') => (resV fr h' c.res).map (·, h')
        | some (.ret, fr, h') => (resV fr h' c.res).map (·, h')
        | _ => none

end Am
end Go.Proofs.YtcndgnddipbbgaaGreat
