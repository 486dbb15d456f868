/-
  THE ABSTRACT MACHINE, part 2: from the program's operations to the machine's (types looked up once), and what it means that an abstract value, frame or heap stands for a true one.
  Conditions: none (definitions and small lemmas).
-/
import Derived.Test.YtcndgnddipbbgaaGreatAm1
import Derived.WalkKit
import Derived.Deep.Draws
set_option linter.unusedVariables false
set_option linter.unusedSimpArgs false
namespace Go.Proofs.YtcndgnddipbbgaaGreat
namespace Am

/-! ### From the program's text -/
def ofCell : Value → Option V
  | .bool b => some (.b b)
  | .int k n => some (.i k n)
  | .string s => some (.s s.data.toList)
  | .pointer none => some (.p none)
  | .slice none 0 0 => some (.sl none 0 (some 0) 0)
  | .map none => some (.m none)
  | .nilFunc => some .nf
  | .nilIface => some .ni
  | _ => none

def ofCells : List Value → Option (List V)
  | [] => some []
  | v :: r =>
    match ofCell v, ofCells r with
    | some x, some xs => some (x :: xs)
    | _, _ => none

def ofVal : Value → Option V
  | .agg cs => (ofCells cs.toList).map .g
  | .tuple cs => (ofCells cs.toList).map .t
  | v => ofCell v

section
variable (P : Program) (G : Nat → Option Nat)

def trO : Operand → Option Opd
  | .tmp t => some (.tm t)
  | .const v => (ofVal v).map .k
  | .func f => some (.fn f)
  | .global g => (G g).map .gl

def trOs : List Operand → Option (List Opd)
  | [] => some []
  | x :: r =>
    match trO G x, trOs r with
    | some y, some ys => some (y :: ys)
    | _, _ => none

def trOo : Option Operand → Option (Option Opd)
  | none => some none
  | some x => (trO G x).map some

def szT (t : TypeId) : Option Nat := (P.info? t).map (·.size)
def byT (t : TypeId) : Option Nat := (P.info? t).map (·.bytes)
def aggT (t : TypeId) : Option Bool :=
  match P.underlying t with
  | some (.struct _) => some true
  | some (.array _ _) => some true
  | some _ => some false
  | none => none
def zeroV (t : TypeId) : Option Value := (P.info? t).bind (·.zero)
def zeroT (t : TypeId) : Option (List V) := (zeroV P t).bind fun z => ofCells z.cells.toList

def placesT : List Field → Option (List (Nat × Nat))
  | [] => some []
  | f :: r =>
    match szT P f.type, placesT r with
    | some s, some ps => some ((f.offset, s) :: ps)
    | _, _ => none

def trBuild (place : Nat → Option (Nat × Nat)) : List (Nat × Operand) → Option (List (Nat × Nat × Opd))
  | [] => some []
  | (i, x) :: r =>
    match place i, trO G x, trBuild place r with
    | some (off, s), some y, some ys => some ((off, s, y) :: ys)
    | _, _, _ => none

def trParts : List (Nat × Operand) → Option (List (Nat × Opd))
  | [] => some []
  | (i, x) :: r =>
    match trO G x, trParts r with
    | some y, some ys => some ((i, y) :: ys)
    | _, _ => none

def eqKind (t : TypeId) : Option (Option EqK) :=
  match P.underlying t with
  | some (.int _) => some none
  | some .string => some none
  | some .bool => some (some .bool)
  | some (.pointer _) => some (some .ptr)
  | some (.slice _) => some (some .slice)
  | some (.map _ _) => some (some .map)
  | some (.func _ _ _) => some (some .func)
  | some (.interface _) => some (some .iface)
  | _ => none

def isC : Operand → Bool
  | .const _ => true
  | _ => false
/-- Two interfaces' comparison, one of which is typed out. -/
def eqC (k : EqK) (x y : Operand) : EqK := match k with | .iface => if isC x || isC y then .ifn else .iface | k => k

/-- What a cell of one of the simple types is. -/
def scalK (t : TypeId) : Option KeyK :=
  match P.underlying t with
  | some (.int _) => some .int
  | some .string => some .str
  | some .bool => some .bool
  | _ => none

def keyK (t : TypeId) : Option KeyK :=
  match P.underlying t with
  | some (.int _) => some .int
  | some .string => some .str
  | some .bool => some .bool
  | some (.array n e) => match P.underlying e, szT P e with | some (.int _), some 1 => some (.arr n) | _, _ => none
  | _ => none

/-- A struct of simple fields alone. -/
def flatK : List Field → Nat → Option (List KeyK)
  | [], _ => some []
  | f :: r, k =>
    if f.name != "_" && f.offset == k && szT P f.type == some 1 then
      match scalK P f.type, flatK r (k + 1) with
      | some kk, some ks => some (kk :: ks)
      | _, _ => none
    else none
def structK (t : TypeId) : Option (List KeyK) :=
  match P.underlying t with
  | some (.struct fs) => if P.stoodInHeld t = false ∧ P.eqGuardType P.depth t = false then flatK P fs.toList 0 else none
  | _ => none

def one? : List Opd → Option Opd
  | [x] => some x
  | _ => none

def two? : List Opd → Option (Opd × Opd)
  | [x, y] => some (x, y)
  | _ => none

/-- Is a type's kind that of uint8? -/
def isU8T (P : Program) (e : TypeId) : Bool := match P.underlying e with | some (.int .u8) => true | _ => false
def trBuiltin (b : Builtin) (ts : Array TypeId) (xs : List Opd) : Option AOp :=
  match b with
  | .append =>
    match ts.toList, xs with
    | [t, u], [x, y] =>
      match P.underlying t, P.underlying u with
      | some (.slice e), some (.slice _) =>
        match szT P e, byT P e, zeroT P e with
        | some sz, some by_, some z => if 0 < sz ∧ 0 < by_ ∧ z.length = sz then some (if isU8T P e = true then .appendT (e + 1000000) false sz by_ x y else .append false sz by_ x y) else none
        | _, _, _ => none
      | some (.slice e), some .string =>
        match szT P e, byT P e, zeroT P e with
        | some sz, some by_, some z => if 0 < sz ∧ 0 < by_ ∧ z.length = sz then some (if isU8T P e = true then .appendT (e + 1000000) true sz by_ x y else .append true sz by_ x y) else none
        | _, _, _ => none
      | _, _ => none
    | _, _ => none
  | .len =>
    match ts.toList, xs with
    | [t], [x] =>
      match P.underlying t with
      | some .string => some (.len .str x)
      | some (.slice _) => some (.len .slice x)
      | some (.map _ _) => some (.len .map x)
      | _ => none
    | _, _ => none
  | .delete =>
    match ts.toList, xs with
    | t :: _, [x, y] =>
      match P.underlying t with
      | some (.map k _) => (keyK P k).map fun kk => .delete kk x y
      | _ => none
    | _, _ => none
  | .cap =>
    match ts.toList, xs with
    | [t], [x] =>
      match P.underlying t with
      | some (.slice _) => some (.len .cap x)
      | _ => none
    | _, _ => none
  | .panic => some .stuck
  | .copy =>
    match ts.toList, xs with
    | [t, u], [x, y] =>
      match P.underlying t, P.underlying u with
      | some (.slice e), some (.slice _) => (szT P e).map fun sz => .copyL sz x y
      | _, _ => none
    | _, _ => none
  | .clear =>
    match ts.toList, xs with
    | [t], [x] =>
      match P.underlying t with
      | some (.slice e) =>
        match szT P e, zeroT P e with
        | some sz, some z => if z.length = sz then some (.clearL sz z x) else none
        | _, _ => none
      | _ => none
    | _, _ => none
  | .max => some (.mxmn true xs)
  | .min => some (.mxmn false xs)
  | _ => none

def trOp (op : Op) : Option AOp :=
  match op with
  | .move x => (trO G x).map .mv
  | .assign x => (trO G x).map .mv
  | .pick c a b =>
    match trO G c, trO G a, trO G b with
    | some c, some a, some b => some (.pick c a b)
    | _, _, _ => none
  | .alloc t => if t < 1000000 then (zeroT P t).map fun z => .alloc z t else none
  | .box _ x => (trO G x).map .box
  | .build t parts =>
    match zeroT P t, P.underlying t with
    | some z, some (.struct fs) =>
      match placesT P fs.toList with
      | some ps => (trBuild G (ps[·]?) parts.toList).map (.build z)
      | none => none
    | some z, some (.array _ e) =>
      match szT P e with
      | some s => (trBuild G (fun i => some (i * s, s)) parts.toList).map (.build z)
      | none => none
    | _, _ => none
  | .buildSlice t len parts =>
    match P.underlying t with
    | some (.slice e) =>
      match szT P e, zeroT P e, trParts G parts.toList with
      | some sz, some z, some ps => if z.length = sz then some (.bslice sz z len ps) else none
      | _, _, _ => none
    | _ => none
  | .load t a =>
    match aggT P t, szT P t, trO G a with
    | some agg, some n, some x => if agg ∨ n = 1 then some (.load agg n x) else none
    | _, _, _ => none
  | .store t a x =>
    match szT P t, trO G a, trO G x with
    | some n, some a, some x => some (.store n a x)
    | _, _, _ => none
  | .nilCheck x => (trO G x).map .nilck
  | .binOp op t x y _ =>
    match trO G x, trO G y with
    | some x', some y' =>
      match op with
      | .eql =>
        match eqKind P t with
        | some none => some (.bin .eql x' y')
        | some (some k) => some (.eq false (eqC k x y) x' y')
        | none => (structK P t).map fun ks => .eqG false ks x' y'
      | .neq =>
        match eqKind P t with
        | some none => some (.bin .neq x' y')
        | some (some k) => some (.eq true (eqC k x y) x' y')
        | none => (structK P t).map fun ks => .eqG true ks x' y'
      | op => some (.bin op x' y')
    | _, _ => none
  | .unOp op _ x => (trO G x).map (.un op)
  | .convert src dst x =>
    match P.underlying src, P.underlying dst, trO G x with
    | some _, some (.int k), some x => some (.convI k x)
    | some .string, some .string, some x => some (.convS x)
    | some (.slice e), some .string, some x =>
      match P.underlying e with
      | some (.int .u8) => some (.convBS x)
      | _ => none
    | some .string, some (.slice e), some x =>
      match P.underlying e with
      | some (.int .u8) => some (.convSB x)
      | _ => none
    | _, _, _ => none
  | .makeInterface t x =>
    match P.underlying t, trO G x with
    | some (.interface _), _ => none
    | some _, some x => some (.mkif t x)
    | _, _ => none
  | .makeFunc (.func f) first cs => if first.isEmpty then (trOs G cs.toList).map (.mkfn f) else none
  | .makeMap _ none => some .mkmap
  | .makeSlice t l c =>
    match P.underlying t with
    | some (.slice e) =>
      match szT P e, byT P e, zeroT P e, trO G l, trO G c with
      | some sz, some by_, some z, some l, some c => if z.length = sz then some (.mkslice sz by_ z l c) else none
      | _, _, _, _, _ => none
    | _ => none
  | .slice t x lo hi mx =>
    match trO G x, trOo G lo, trOo G hi, trOo G mx with
    | some x, some lo, some hi, some mx =>
      match P.underlying t with
      | some .string => if mx.isSome then none else some (.sliceS x lo hi)
      | some (.slice e) => (szT P e).map fun sz => .sliceL sz x lo hi mx
      | some (.array n e) => if mx.isSome then none else (szT P e).map fun sz => .sliceA n sz x lo hi
      | _ => none
    | _, _, _, _ => none
  | .fieldAddr t x i =>
    match P.underlying t, trO G x with
    | some (.struct fs), some x =>
      match fs[i]? with
      | some f =>
        match szT P f.type with
        | some s => if 0 < s then some (.faddr f.offset x) else none
        | none => none
      | none => none
    | _, _ => none
  | .field t x i =>
    match P.underlying t, trO G x with
    | some (.struct fs), some x =>
      match fs[i]? with
      | some f =>
        match szT P f.type, aggT P f.type with
        | some s, some agg => some (.field f.offset s agg x)
        | _, _ => none
      | none => none
    | _, _ => none
  | .indexAddr t x i =>
    match P.underlying t, trO G x, trO G i with
    | some (.array n e), some x, some i => (szT P e).map fun s => .iaddrA n s x i
    | some (.slice e), some x, some i => (szT P e).map fun s => .iaddrL s x i
    | _, _, _ => none
  | .index t x i =>
    match P.underlying t, trO G x, trO G i with
    | some (.array n e), some x, some i =>
      match szT P e, aggT P e with
      | some s, some agg => some (.indexA n s agg x i)
      | _, _ => none
    | some .string, some x, some i => some (.indexS x i)
    | _, _, _ => none
  | .lookup t x k ok =>
    match P.underlying t, trO G x, trO G k with
    | some (.map kt e), some x, some k =>
      match (zeroV P e).bind ofVal, keyK P kt with
      | some z, some kk => some (.lookup kk z x k ok)
      | _, _ => none
    | _, _, _ => none
  | .mapUpdate t m k x =>
    match P.underlying t, trO G m, trO G k, trO G x with
    | some (.map kt _), some m, some k, some x => (keyK P kt).map fun kk => .mupd kk m k x
    | _, _, _, _ => none
  | .extract x i => (trO G x).map fun x => .extract x i
  | .range t x =>
    match P.underlying t, trO G x with
    | some .string, some x => some (.range x)
    | _, _ => none
  | .next x s => if s then (trO G x).map .next else none
  | .panic _ => some .stuck
  | .call c =>
    match c.callee with
    | .builtin b =>
      match trOs G c.args.toList with
      | some xs => trBuiltin P b c.argTypes xs
      | none => none
    | _ => none
  | _ => none

def trAct (op : Op) : Option Act' :=
  match op with
  | .call c =>
    match c.callee with
    | .value (.func f) => (trOs G c.args.toList).map (.callf f)
    | .value x =>
      match trO G x, trOs G c.args.toList with
      | some x, some xs => some (.callv x xs)
      | _, _ => none
    | .builtin _ => (trOp P G op).map .op
    | _ => none
  | _ => (trOp P G op).map .op

def trGd (ops : Array Oper) : Option (Nat × Bool) → Option (Option (Nat × Bool))
  | none => some none
  | some (j, w) =>
    match (ops[j]?).bind (·.dst) with
    | some t => some (some (t, w))
    | none => none

def trOper (ops : Array Oper) (o : Oper) : Option COp :=
  match trAct P G o.op, trGd ops o.guard with
  | some a, some g => some ⟨o.dst, a, g⟩
  | _, _ => none

def trOpers (ops : Array Oper) : List Oper → Option (List COp)
  | [] => some []
  | o :: r =>
    match trOper P G ops o, trOpers ops r with
    | some x, some xs => some (x :: xs)
    | _, _ => none

/-! What an operation does with the heap. -/
inductive Kd where
  | pure | read | alloc | world

def AOp.kd : AOp → Kd
  | .box _ => .alloc
  | .alloc .. => .alloc
  | .bslice .. => .alloc
  | .store .. => .world
  | .convSB _ => .alloc
  | .mkmap => .alloc
  | .mkslice .. => .alloc
  | .mupd .. => .world
  | .append .. => .world
  | .appendT .. => .world
  | .delete .. => .world
  | .range _ => .alloc
  | .next _ => .world
  | .copyL .. => .world
  | .clearL .. => .world
  | .load .. => .read
  | .convBS _ => .read
  | .sliceA .. => .read
  | .lookup .. => .read
  | .len k _ => match k with | .map => .read | _ => .pure
  | _ => .pure

def COp.kd (o : COp) : Kd :=
  match o.act with
  | .op a => a.kd
  | _ => .world

def isW (o : COp) : Bool := match o.kd with | .world => true | _ => false
def isR (o : COp) : Bool := match o.kd with | .read => true | _ => false
def isA (o : COp) : Bool := match o.kd with | .alloc => true | _ => false

def AOp.quiet (o : AOp) : Bool := match o.kd with | .pure => true | .read => true | _ => false

def opdTms : List Opd → List Nat
  | [] => []
  | .tm t :: r => t :: opdTms r
  | _ :: r => opdTms r

def ooL : Option Opd → List Opd
  | none => []
  | some x => [x]

def AOp.opds : AOp → List Opd
  | .mv x | .box x | .load _ _ x | .nilck x | .un _ x | .convI _ x | .convS x | .convBS x | .convSB x | .faddr _ x | .field _ _ _ x | .extract x _ | .len _ x | .mkif _ x | .range x | .next x => [x]
  | .pick a b c => [a, b, c]
  | .alloc .. => []
  | .stuck => []
  | .mkmap => []
  | .build _ ps => ps.map (·.2.2)
  | .bslice _ _ _ ps => ps.map (·.2)
  | .store _ a x => [a, x]
  | .bin _ x y => [x, y]
  | .eq _ _ x y => [x, y]
  | .mkfn _ cs => cs
  | .mkslice _ _ _ l c => [l, c]
  | .sliceS x lo hi => x :: (ooL lo ++ ooL hi)
  | .sliceL _ x lo hi mx => x :: (ooL lo ++ (ooL hi ++ ooL mx))
  | .sliceA _ _ x lo hi => x :: (ooL lo ++ ooL hi)
  | .iaddrL _ x i => [x, i]
  | .iaddrA _ _ x i => [x, i]
  | .indexA _ _ _ x i => [x, i]
  | .indexS x i => [x, i]
  | .lookup _ _ x k _ => [x, k]
  | .mupd _ m k x => [m, k, x]
  | .append _ _ _ x y => [x, y]
  | .appendT _ _ _ _ x y => [x, y]
  | .delete _ m k => [m, k]
  | .mxmn _ xs => xs
  | .eqG _ _ x y => [x, y]
  | .copyL _ x y => [x, y]
  | .clearL _ _ x => [x]

def Act'.opds : Act' → List Opd
  | .op o => o.opds
  | .callf _ xs => xs
  | .callv x xs => x :: xs

/-- The slots that a step reads. -/
def COp.uses (o : COp) : List Nat := opdTms o.act.opds ++ (match o.gd with | some (t, _) => [t] | none => [])
def COp.names (o : COp) : List Nat := o.dst.toList ++ o.uses

def bfT (bs : Array Nat) (i j : Nat) : Bool := (bs.getD j 0).testBit i

def allLt (n : Nat) (p : Nat → Bool) : Bool := (List.range n).all p

/-- The machine's order of a region whose order is drawn: what makes an object as early as may be. -/
def ordGo (ops : List COp) (bs : Array Nat) : Nat → List Nat → List Nat
  | 0, dn => dn
  | m + 1, dn =>
    let rs := (List.range ops.length).filter fun i => !dn.contains i && (List.range ops.length).all fun j => !bfT bs j i || dn.contains j
    match rs.find? (fun i => match ops[i]? with | some o => !isW o | none => false) with
    | some i => ordGo ops bs m (dn ++ [i])
    | none =>
      match rs with
      | i :: _ => ordGo ops bs m (dn ++ [i])
      | [] => dn

def ordOf (ops : List COp) (bs : Array Nat) : List Nat := ordGo ops bs ops.length []

def pAt (π : List Nat) (i : Nat) : Nat := π.getD i 0
/-- Does one step always come ahead of another one? -/
def bAt (bs : Array Nat) (π : List Nat) (i j : Nat) : Bool := bfT bs (pAt π i) (pAt π j)

def idle : COp := ⟨none, .op .mkmap, none⟩
def permOps (ops : List COp) (π : List Nat) : List COp := π.map fun i => ops.getD i idle
def opAt (ops : List COp) (i : Nat) : COp := ops.getD i idle

/-- The heaps at which a read must give the same. -/
def chkOf (ops : List COp) (b : Nat → Nat → Bool) (k : Nat) : List Nat :=
  (List.range ops.length).filterMap fun j => if isW (opAt ops j) && j != k && !b j k && !b k j then some (if j < k then j else j + 1) else none
def chksOf (ops : List COp) (b : Nat → Nat → Bool) : List (Nat × List Nat) :=
  (List.range ops.length).filterMap fun k => if isR (opAt ops k) && !(chkOf ops b k).isEmpty then some (k, chkOf ops b k) else none
/-- The heaps at which a new object must be as it was made. -/
def achOf (ops : List COp) (b : Nat → Nat → Bool) (k : Nat) : List Nat :=
  (List.range ops.length).filterMap fun j => if isW (opAt ops j) && decide (k < j) && !b k j then some (j + 1) else none
def achsOf (ops : List COp) (b : Nat → Nat → Bool) : List (Nat × List Nat) :=
  (List.range ops.length).filterMap fun k => if isA (opAt ops k) && !(achOf ops b k).isEmpty then some (k, achOf ops b k) else none

/-- Whatever order is drawn: slots and the heap's writers meet in one order. -/
def drawOk (src : Array Oper) (ops : List COp) (bs : Array Nat) (π : List Nat) : Bool :=
  (ops.length == src.size) && (π.length == src.size) &&
  (allLt src.size fun i => decide (pAt π i < src.size) && π.contains i) &&
  (allLt src.size fun j => allLt j fun i => pAt π i != pAt π j) &&
  (allLt src.size fun i => match src[i]? with | some o => o.after.all (fun e => !Region.binds .any e || decide (e.on < i)) | none => false) &&
  (allLt src.size fun j => allLt j fun i => !bAt bs π j i) &&
  (allLt src.size fun d => allLt src.size fun k =>
    d == k || (match (opAt ops d).dst with | some t => !((opAt ops k).names.contains t) || bAt bs π (min d k) (max d k) | none => true)) &&
  (allLt src.size fun j => allLt j fun i => !(isW (opAt ops i) && (isW (opAt ops j) || isA (opAt ops j))) || bAt bs π i j) &&
  (allLt src.size fun k => allLt src.size fun i => !bfT bs i k || (match src[k]? with | some o => o.after.any (fun e => Region.binds .any e && (e.on == i || bfT bs i e.on)) | none => false))

def trC : Code → Option C
  | .skip => some .skip
  | .region _ ops false => (trOpers P G ops ops.toList).map .reg
  | .region _ ops true =>
    match trOpers P G ops ops.toList with
    | some l =>
      let bs := Region.before ops
      let π := ordOf l bs
      let el := permOps l π
      if drawOk ops el bs π then some (.draw el (chksOf el (bAt bs π)) (achsOf el (bAt bs π))) else none
    | none => none
  | .seq a b =>
    match trC a, trC b with
    | some x, some y => some (.seq x y)
    | _, _ => none
  | .cond c a b =>
    match trO G c, trC a, trC b with
    | some c, some x, some y => some (.cond c x y)
    | _, _, _ => none
  | .block id a => (trC a).map (.blk id)
  | .loop a => (trC a).map .loop
  | .exit id => some (.exit id)
  | .ret => some .ret
  | .scope a => trC a
  | .label _ => some .skip
  | _ => none

def trR : List ResultVar → Option (List RV)
  | [] => some []
  | .tmp t :: r => (trR r).map (.tm t :: ·)
  | .cell a t :: r =>
    match aggT P t, szT P t, trR r with
    | some agg, some n, some rs => if agg ∨ n = 1 then some (.cell a agg n :: rs) else none
    | _, _, _ => none

def trF (fn : Func) : Option CF :=
  match fn.body with
  | none => none
  | some c =>
    if fn.name == "runtime.NumGoroutine" then none else
    match trC P G c, trR P fn.results.toList with
    | some b, some rs => some ⟨fn.ntmps, rs, b⟩
    | _, _ => none
end

end Am
end Go.Proofs.YtcndgnddipbbgaaGreat
