/-
  WHAT THE LIBRARY ANSWERS, WHERE IT IS TAKEN BY ITS CONTRACT (the link's laws): a builder's own steps, repeated texts, maps copied. Over lists, and over trees alike.
  Conditions: none.
-/
import Derived.Test.YtcndgnddipbbgaaGreatFns
import Derived.Test.YtcndgnddipbbgaaGreatAmL
set_option linter.unusedVariables false
set_option linter.unusedSimpArgs false
namespace Go.Proofs.YtcndgnddipbbgaaGreat
namespace Am
def oCheck (args : List V) (h : Heap) : Option (V × Heap) :=
  match args with
  | [.p (some (id, 0))] =>
    match (h[id]? : Option Obj) with
    | some (.cells [.p q, sv] false (some t)) =>
      if t = tyB then
        (match q with
        | none => some (un, h.set id (.cells [.p (some (id, 0)), sv] false (some t)))
        | some q => if q = (id, 0) then some (un, h) else none)
      else none
    | _ => none
  | _ => none
def oString (args : List V) (h : Heap) : Option (V × Heap) :=
  match args with
  | [.p (some (id, 0))] =>
    match (h[id]? : Option Obj) with
    | some (.cells [.p _, .sl a n _ z] false (some t)) =>
      if t = tyB then
        match a with
        | none => if n = 0 then some (.s [], h) else none
        | some (bid, off) =>
          match (h[bid]? : Option Obj) with
          | some (.cells vs false (some e)) =>
            if e = tyU8 ∧ off = 0 ∧ z = 1 ∧ bid ≠ id ∧ 0 < n ∧ n ≤ vs.length ∧ n ≤ 35184372088832 then
              match bytesOf (vs.take n) with
              | some l => if sameL (vs.take n) (bytesV l) = true then some (.s l, h.set bid .dead) else none
              | none => none
            else none
          | _ => none
      else none
    | _ => none
  | _ => none
/-- A text some times over (one byte, at most 8192 times). -/
def oRepeat (args : List V) (h : Heap) : Option (V × Heap) :=
  match args with
  | [.s [b], .i .i64 n] => if 0 ≤ n ∧ n ≤ 8192 then some (.s (List.replicate n.toNat b), h) else none
  | _ => none
/-- A map like another one. -/
def oClone (args : List V) (h : Heap) : Option (V × Heap) :=
  match args with
  | [.m (some id)] => match (h[id]? : Option Obj) with | some (.map es) => some (.m (some h.length), h ++ [.map es]) | _ => none
  | _ => none
def O (f : Nat) : Option (List V → Heap → Option (V × Heap)) :=
  if f = n_strings_Builder_copyCheck then some oCheck else
  if f = n_strings_Builder_String then some oString else
  if f = n_strings_Repeat then some oRepeat else none
def M : Mach := ⟨O, F⟩
end Am
end Go.Proofs.YtcndgnddipbbgaaGreat
