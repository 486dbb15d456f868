/-
  THE ABSTRACT MACHINE, part 14: the machine over trees: what it answers the machine answers.
  Conditions: none (definitions and lemmas).
-/
import Derived.Test.YtcndgnddipbbgaaGreatAm13
set_option linter.unusedVariables false
set_option linter.unusedSimpArgs false
namespace Go.Proofs.YtcndgnddipbbgaaGreat
namespace Am

noncomputable def evT (t : T V) : Opd → V
  | .tm n => t.get n
  | .k v => v
  | .fn f => .f f []
  | .gl id => .p (some (id, 0))
theorem RT.ev {t : T V} {fr : List V} (h : RT t fr) (x : Opd) : evT t x = ev fr x := by
  cases x <;> simp [evT, Am.ev, h.get]

noncomputable def wantsT (t : T V) : Option (Nat × Bool) → Bool
  | none => true
  | some (n, w) => match t.get n with
    | .b x => x == w
    | _ => false
theorem RT.wants {t : T V} {fr : List V} (h : RT t fr) (g : Option (Nat × Bool)) : wantsT t g = Am.wants fr g := by
  cases g with
  | none => rfl
  | some p =>
    obtain ⟨n, w⟩ := p
    simp only [wantsT, Am.wants, h.get, List.getD_eq_getElem?_getD]
    cases fr[n]? with
    | none => rfl
    | some v => cases v <;> rfl

noncomputable def putT (t : T V) : Option Nat → V → T V
  | some d, v => t.set d v
  | none, _ => t
theorem RT.put {t : T V} {fr : List V} (h : RT t fr) (d : Option Nat) (v : V) : RT (putT t d v) (Am.put fr d v) := by
  cases d with
  | none => exact h
  | some d => exact h.set d v


/-! ### Operations over the heap's tree -/
noncomputable def getCellsH (h : HT) (id off n : Nat) : Option (List V) :=
  match h.get id with
  | some (.cells vs _ _) => if off + n ≤ vs.length then some ((vs.drop off).take n) else none
  | _ => none
noncomputable def setCellsH (h : HT) (id off : Nat) (us : List V) : Option HT :=
  match h.get id with
  | some (.cells vs false ty) => if off + us.length ≤ vs.length then some (h.set id (.cells (splice vs off us) false ty)) else none
  | _ => none
noncomputable def appSrcH (h : HT) (str : Bool) (sz : Nat) : V → Option (Nat × List V)
  | .sl none 0 _ _ => if str then none else some (0, [])
  | .sl (some (id, off)) n _ z => if str then none else if z = sz then (getCellsH h id off (n * sz)).map (n, ·) else none
  | .s l => if str ∧ sz = 1 then some (l.length, bytesV l) else none
  | _ => none
noncomputable def rwOkH (h : HT) (id : Nat) : Bool :=
  match h.get id with
  | some (.cells _ false _) => true
  | _ => false
noncomputable def tagOfH (tg : Option Nat) (h : HT) (id off len : Nat) : Option Nat :=
  match tg with
  | none => none
  | some e =>
    match h.get id with
    | some (.cells _ _ (some t)) => if t = e ∧ off = 0 ∧ 0 < len then some e else none
    | _ => none
noncomputable def appendH (tg : Option Nat) (h : HT) (str : Bool) (sz bytes : Nat) (x y : V) : Option (V × HT) :=
  match x with
  | .sl a len cap z =>
    match appSrcH h str sz y with
    | none => none
    | some (n, news) =>
      if n = 0 then some (x, h) else
      if (len + n) * bytes > 35184372088832 ∨ len + n > 35184372088832 then none else
      match a with
      | none => if len = 0 then some (.sl (some (h.n, 0)) n none sz, h.push (.cells news false tg)) else none
      | some (id, off) =>
        if z ≠ sz then none else
        match getCellsH h id off (len * sz) with
        | none => none
        | some old =>
          match cap with
          | some c =>
            if len + n ≤ c then
              (setCellsH h id (off + len * sz) news).map fun h' => (.sl (some (id, off)) (len + n) (some c) sz, h')
            else some (.sl (some (h.n, 0)) (len + n) none sz, h.push (.cells (old ++ news) false tg))
          | none =>
            if rwOkH h id then some (.sl (some (h.n, 0)) (len + n) none sz, (h.set id .dead).push (.cells (old ++ news) false (tagOfH tg h id off len))) else none
  | _ => none
noncomputable def lenH (h : HT) : LenK → V → Option Nat
  | .str, .s l => some l.length
  | .slice, .sl _ n _ _ => some n
  | .cap, .sl _ _ c _ => c
  | .map, .m none => some 0
  | .map, .m (some id) =>
    match h.get id with
    | some (.map es) => some es.length
    | _ => none
  | _, _ => none

def boundE (e : Opd → V) (o : Option Opd) (d : Nat) : Option Nat :=
  match o with
  | none => some d
  | some x => natOf (e x)
abbrev OpF := (Opd → V) → HT → Option (V × HT)
noncomputable def putOb (h : HT) : Option (Obj × (Nat → V)) → Option (V × HT)
  | some q => some (q.2 h.n, h.push q.1)
  | none => none
def withH (h : HT) : Option V → Option (V × HT)
  | some v => some (v, h)
  | none => none
noncomputable def hMv (x : Opd) : OpF := fun e h => some (e x, h)
noncomputable def hPick (c a b : Opd) : OpF := fun e h =>
  match e c with
  | .b true => some (e a, h)
  | .b false => some (e b, h)
  | _ => none
noncomputable def hBox (x : Opd) : OpF := fun e h => cond ((e x).cells.all V.one) (some (.p (some (h.n, 0)), h.push (.cells (e x).cells false none))) none
noncomputable def hAlloc (z : List V) (ty : Nat) : OpF := fun e h => some (.p (some (h.n, 0)), h.push (.cells z false (some ty)))
noncomputable def hBuild (z : List V) (parts : List (Nat × Nat × Opd)) : OpF := fun e h => (fillS z (parts.map fun q => (q.1, q.2.1, e q.2.2))).map fun cs => (.g cs, h)
noncomputable def hBslice (sz : Nat) (z : List V) (len : Nat) (parts : List (Nat × Opd)) : OpF := fun e h =>
  putOb h (if len * sz ≤ 16777216 then
      (fillS (reps z len) (parts.map fun q => (q.1 * sz, sz, e q.2))).bind fun cs =>
        if cs.all V.one then some (.cells cs false none, fun id => .sl (some (id, 0)) len (some len) sz) else none
    else none)
noncomputable def hLoad (agg : Bool) (n : Nat) (x : Opd) : OpF := fun e h =>
  match e x with
  | .p (some (id, off)) =>
    match getCellsH h id off n with
    | some cs => if agg then some (.g cs, h) else cs[0]?.map (·, h)
    | none => none
  | _ => none
noncomputable def hStore (n : Nat) (a x : Opd) : OpF := fun e h =>
  match e a with
  | .p (some (id, off)) =>
    if (e x).cells.length = n ∧ (e x).cells.all V.one then (setCellsH h id off (e x).cells).map (un, ·) else none
  | _ => none
noncomputable def hNil (x : Opd) : OpF := fun e h =>
  match e x with
  | .p none => none
  | .ni => none
  | .nf => none
  | v => some (v, h)
noncomputable def hBin (op : BinOp) (x y : Opd) : OpF := fun e h => withH h (binV op (e x) (e y))
noncomputable def hEq (neg : Bool) (k : EqK) (x y : Opd) : OpF := fun e h => (eqV k (e x) (e y)).map fun r => (.b (if neg then !r else r), h)
noncomputable def hUn (op : UnOp) (x : Opd) : OpF := fun e h => withH h (unV op (e x))
noncomputable def hConvI (k : IntKind) (x : Opd) : OpF := fun e h =>
  match e x with
  | .i _ n => some (.i k (k.wrap n), h)
  | _ => none
noncomputable def hConvS (x : Opd) : OpF := fun e h =>
  match e x with
  | .s l => some (.s l, h)
  | _ => none
noncomputable def hConvBS (x : Opd) : OpF := fun e h =>
  match e x with
  | .sl none _ _ _ => some (.s [], h)
  | .sl (some (id, off)) n _ _ => ((getCellsH h id off n).bind bytesOf).map fun l => (.s l, h)
  | _ => none
noncomputable def hConvSB (x : Opd) : OpF := fun e h =>
  putOb h (match e x with
    | .s l => if l.length ≤ 35184372088832 then some (.cells (bytesV l) false none, fun id => .sl (some (id, 0)) l.length none 1) else none
    | _ => none)
noncomputable def hMkfn (f : Nat) (cs : List Opd) : OpF := fun e h => some (.f f (cs.map e), h)
noncomputable def hMkmap : OpF := fun e h => some (.m (some h.n), h.push (.map []))
noncomputable def hMkslice (sz bytes : Nat) (z : List V) (len cap : Opd) : OpF := fun e h =>
  putOb h (match e len, e cap with
    | .i _ l, .i _ c =>
      if 0 ≤ l ∧ l ≤ c ∧ c ≤ 16777216 ∧ (bytes : Int) * c ≤ 35184372088832 then
        some (.cells (reps z c.toNat) false none, fun id => .sl (some (id, 0)) l.toNat (some c.toNat) sz)
      else none
    | _, _ => none)
noncomputable def hSliceS (x : Opd) (lo hi : Option Opd) : OpF := fun e h =>
  match e x with
  | .s l =>
    match boundE e lo 0, boundE e hi l.length with
    | some a, some b => if a ≤ b ∧ b ≤ l.length then some (.s ((l.take b).drop a), h) else none
    | _, _ => none
  | _ => none
noncomputable def hSliceL (sz : Nat) (x : Opd) (lo hi mx : Option Opd) : OpF := fun e h =>
  match e x with
  | .sl a len cap z =>
    match boundE e lo 0, boundE e hi len, boundE e mx (cap.getD len) with
    | some l, some u, some m =>
      if l ≤ u ∧ u ≤ m ∧ m ≤ cap.getD len ∧ (mx.isSome → hi.isSome) ∧ (a.isSome → z = sz) then
        some (.sl (a.map fun q => (q.1, q.2 + l * sz)) (u - l) (if mx.isSome then some (m - l) else cap.map (· - l)) z, h)
      else none
    | _, _, _ => none
  | _ => none
noncomputable def hSliceA (n sz : Nat) (x : Opd) (lo hi : Option Opd) : OpF := fun e h =>
  match e x with
  | .p (some (id, off)) =>
    match boundE e lo 0, boundE e hi n with
    | some l, some u =>
      if l ≤ u ∧ u ≤ n ∧ (getCellsH h id off (n * sz)).isSome then some (.sl (some (id, off + l * sz)) (u - l) (some (n - l)) sz, h) else none
    | _, _ => none
  | _ => none
noncomputable def hFaddr (off : Nat) (x : Opd) : OpF := fun e h =>
  match e x with
  | .p (some (id, o)) => some (.p (some (id, o + off)), h)
  | _ => none
noncomputable def hField (off sz : Nat) (agg : Bool) (x : Opd) : OpF := fun e h =>
  match e x with
  | .g cs => withH h (partS agg cs off sz)
  | _ => none
noncomputable def hIaddrL (sz : Nat) (x i : Opd) : OpF := fun e h =>
  match e x, natOf (e i) with
  | .sl (some (id, off)) len _ z, some n => if n < len ∧ z = sz then some (.p (some (id, off + n * sz)), h) else none
  | _, _ => none
noncomputable def hIaddrA (len sz : Nat) (x i : Opd) : OpF := fun e h =>
  match e x, natOf (e i) with
  | .p (some (id, off)), some n => if n < len then some (.p (some (id, off + n * sz)), h) else none
  | _, _ => none
noncomputable def hIndexA (len sz : Nat) (agg : Bool) (x i : Opd) : OpF := fun e h =>
  match e x, natOf (e i) with
  | .g cs, some n => if n < len then withH h (partS agg cs (n * sz) sz) else none
  | _, _ => none
noncomputable def hIndexS (x i : Opd) : OpF := fun e h =>
  match e x, natOf (e i) with
  | .s l, some n => (l[n]?).map fun c => (.i .u8 c.toNat, h)
  | _, _ => none
noncomputable def hLookup (kk : KeyK) (z : V) (x k : Opd) (ok : Bool) : OpF := fun e h =>
  if !keyFit kk (e k) then none else
  match e x with
  | .m none => some (if ok then .t [z, .b false] else z, h)
  | .m (some id) =>
    match h.get id with
    | some (.map es) =>
      match findK (e k) es 0 with
      | some (some (_, v)) => some (if ok then .t [v, .b true] else v, h)
      | some none => some (if ok then .t [z, .b false] else z, h)
      | none => none
    | _ => none
  | _ => none
noncomputable def hMupd (kk : KeyK) (m k x : Opd) : OpF := fun e h =>
  if !keyFit kk (e k) then none else
  match e m with
  | .m (some id) =>
    match h.get id with
    | some (.map es) =>
      match findK (e k) es 0 with
      | some (some (n, _)) => some (un, h.set id (.map (es.set n (e k, e x))))
      | some none => some (un, h.set id (.map (es ++ [(e k, e x)])))
      | none => none
    | _ => none
  | _ => none
noncomputable def hExtract (x : Opd) (i : Nat) : OpF := fun e h =>
  match e x with
  | .t l => (l[i]?).map (·, h)
  | _ => none
noncomputable def hAppend (str : Bool) (sz bytes : Nat) (x y : Opd) : OpF := fun e h => appendH none h str sz bytes (e x) (e y)
noncomputable def hAppendT (g : Nat) (str : Bool) (sz bytes : Nat) (x y : Opd) : OpF := fun e h => appendH (some g) h str sz bytes (e x) (e y)
noncomputable def hLen (k : LenK) (x : Opd) : OpF := fun e h => (lenH h k (e x)).map fun (n : Nat) => (.i .i64 (n : Int), h)
noncomputable def hDelete (kk : KeyK) (m k : Opd) : OpF := fun e h =>
  if !keyFit kk (e k) then none else
  match e m with
  | .m none => some (un, h)
  | .m (some id) =>
    match h.get id with
    | some (.map es) =>
      match findK (e k) es 0 with
      | some (some (n, _)) => some (un, h.set id (.map (es.eraseIdx n)))
      | some none => some (un, h)
      | none => none
    | _ => none
  | _ => none
noncomputable def hMxmn (mx : Bool) (xs : List Opd) : OpF := fun e h =>
  match xs.map e with
  | .i k x :: r => (intsMax mx k x r).map (·, h)
  | _ => none
noncomputable def hMkif (t : Nat) (x : Opd) : OpF := fun e h => some (.ic t (e x), h)
noncomputable def hEqG (neg : Bool) (ks : List KeyK) (x y : Opd) : OpF := fun e h => (eqGV ks (e x) (e y)).map fun r => (.b (if neg then !r else r), h)
noncomputable def hCopyL (sz : Nat) (x y : Opd) : OpF := fun e h =>
  match e x, e y with
  | .sl a dl _ z, .sl b sl _ z' =>
    if min sl dl = 0 then some (.i .i64 0, h) else
    match a, b with
    | some (id, off), some (id', off') =>
      if z = sz ∧ z' = sz then
        match getCellsH h id' off' (min sl dl * sz) with
        | some cs => if cs.all V.one then (setCellsH h id off cs).map (.i .i64 (min sl dl : Nat), ·) else none
        | none => none
      else none
    | _, _ => none
  | _, _ => none
noncomputable def hClearL (sz : Nat) (z : List V) (x : Opd) : OpF := fun e h =>
  match e x with
  | .sl none _ _ _ => some (un, h)
  | .sl (some (id, off)) n _ z' => if n = 0 then some (un, h) else if z' = sz ∧ z.length = sz ∧ z.all V.one then (setCellsH h id off (reps z n)).map (un, ·) else none
  | _ => none
noncomputable def hNone : OpF := fun _ _ => none

noncomputable def opH (q : AOp) : OpF :=
  match q with
  | .mv x => hMv x
  | .pick c a b => hPick c a b
  | .box x => hBox x
  | .alloc z ty => hAlloc z ty
  | .build z ps => hBuild z ps
  | .bslice sz z n ps => hBslice sz z n ps
  | .load a n x => hLoad a n x
  | .store n a x => hStore n a x
  | .nilck x => hNil x
  | .bin op x y => hBin op x y
  | .eq n k x y => hEq n k x y
  | .un op x => hUn op x
  | .convI k x => hConvI k x
  | .convS x => hConvS x
  | .convBS x => hConvBS x
  | .convSB x => hConvSB x
  | .mkfn f cs => hMkfn f cs
  | .mkmap => hMkmap
  | .mkslice sz b z l c => hMkslice sz b z l c
  | .sliceS x lo hi => hSliceS x lo hi
  | .sliceL sz x lo hi mx => hSliceL sz x lo hi mx
  | .sliceA n sz x lo hi => hSliceA n sz x lo hi
  | .faddr o x => hFaddr o x
  | .field o s a x => hField o s a x
  | .iaddrL s x i => hIaddrL s x i
  | .iaddrA n s x i => hIaddrA n s x i
  | .indexA n s a x i => hIndexA n s a x i
  | .indexS x i => hIndexS x i
  | .lookup kk z x k ok => hLookup kk z x k ok
  | .mupd kk m k x => hMupd kk m k x
  | .extract x i => hExtract x i
  | .append s z b x y => hAppend s z b x y
  | .appendT g s z b x y => hAppendT g s z b x y
  | .len k x => hLen k x
  | .delete kk m k => hDelete kk m k
  | .mxmn b xs => hMxmn b xs
  | .mkif t x => hMkif t x
  | .range _ => hNone
  | .next _ => hNone
  | .stuck => hNone
  | .eqG n ks x y => hEqG n ks x y
  | .copyL sz x y => hCopyL sz x y
  | .clearL sz z x => hClearL sz z x

def RO (o' : Option (V × HT)) (o : Option (V × Heap)) : Prop := ∀ v ht', o' = some (v, ht') → ∃ h', o = some (v, h') ∧ RH ht' h'

section
variable {ht : HT} {h : Heap}
theorem getCellsH_eq (r : RH ht h) (id off n : Nat) : getCellsH ht id off n = getCells h id off n := by
  unfold getCellsH getCells; rw [r.get]; rfl
theorem setCellsH_ok (r : RH ht h) {id off : Nat} {us : List V} {ht' : HT} (hs : setCellsH ht id off us = some ht') : ∃ h', setCells h id off us = some h' ∧ RH ht' h' := by
  unfold setCellsH at hs
  unfold setCells
  rw [r.get] at hs
  split at hs
  · rename_i vs hc
    rw [hc]
    split at hs
    · rename_i hle
      injection hs with hs
      subst hs
      exact ⟨_, by simp only [if_pos hle], r.set _ _⟩
    · cases hs
  · cases hs
theorem appSrcH_eq (r : RH ht h) (str : Bool) (sz : Nat) (y : V) : appSrcH ht str sz y = appSrc h str sz y := by
  unfold appSrcH appSrc
  simp only [getCellsH_eq r]
  rfl
theorem rwOkH_eq (r : RH ht h) (id : Nat) : rwOkH ht id = rwOk h id := by
  unfold rwOkH rwOk; rw [r.get]; rfl
theorem lenH_eq (r : RH ht h) (k : LenK) (v : V) : lenH ht k v = lenV h k v := by
  cases k <;> cases v <;> simp only [lenH, lenV]
  rename_i z
  cases z with
  | none => rfl
  | some id => simp only [lenH, lenV, r.get]; rfl
theorem tagOfH_eq (r : RH ht h) (tg : Option Nat) (id off len : Nat) : tagOfH tg ht id off len = tagOf tg h id off len := by
  cases tg with
  | none => rfl
  | some e => unfold tagOfH tagOf; rw [r.get]; rfl
theorem appendH_ok (r : RH ht h) (tg : Option Nat) (str : Bool) (sz bytes : Nat) (x y : V) : RO (appendH tg ht str sz bytes x y) (appendG tg h str sz bytes x y) := by
  intro v ht' hs
  unfold appendH at hs
  unfold appendG
  simp only [appSrcH_eq r, getCellsH_eq r, rwOkH_eq r, tagOfH_eq r, r.1] at hs
  split at hs
  · rename_i a len cap z
    split at hs
    · cases hs
    · rename_i n news hsrc
      simp only [hsrc]
      split at hs
      · rename_i hn; rw [if_pos hn]; obtain ⟨rfl, rfl⟩ := pair_inj hs; exact ⟨h, rfl, r⟩
      · rename_i hn
        rw [if_neg hn]
        split at hs
        · cases hs
        · rename_i hbig
          rw [if_neg hbig]
          split at hs
          · split at hs
            · rename_i hl; rw [if_pos hl]; obtain ⟨rfl, rfl⟩ := pair_inj hs; exact ⟨_, rfl, r.push _⟩
            · cases hs
          · rename_i id off
            split at hs
            · cases hs
            · rename_i hz
              simp only [if_neg hz]
              split at hs
              · cases hs
              · rename_i old hg
                simp only [hg]
                split at hs
                · rename_i c
                  split at hs
                  · rename_i hle
                    simp only [if_pos hle]
                    obtain ⟨h1, hset, hh⟩ := map1 hs
                    injection hh with e1 e2
                    subst e1; subst e2
                    obtain ⟨h2, h3, h4⟩ := setCellsH_ok r hset
                    exact ⟨h2, by rw [h3]; rfl, h4⟩
                  · rename_i hle
                    simp only [if_neg hle]
                    obtain ⟨rfl, rfl⟩ := pair_inj hs
                    exact ⟨_, rfl, r.push _⟩
                · split at hs
                  · rename_i hw; simp only [if_pos hw]; obtain ⟨rfl, rfl⟩ := pair_inj hs; exact ⟨_, rfl, (r.set _ _).push _⟩
                  · cases hs
  · cases hs

theorem putOb_ok (r : RH ht h) (o : Option (Obj × (Nat → V))) : RO (putOb ht o) (o.map fun q => (q.2 h.length, h ++ [q.1])) := by
  intro v ht' hs
  cases o with
  | none => cases hs
  | some q =>
    obtain ⟨rfl, rfl⟩ := pair_inj (show some (q.2 ht.n, ht.push q.1) = some (v, ht') from hs)
    exact ⟨_, by rw [r.1]; rfl, r.push _⟩
theorem withH_eq {γ : Type} (o : Option V) (h : γ) : o.map (·, h) = (match o with | some v => some (v, h) | none => none) := by cases o <;> rfl

theorem opH_ok (r : RH ht h) {e : Opd → V} {fr : List V} (he : ∀ x, e x = ev fr x) (q : AOp) : RO (opH q e ht) (opS q fr h) := by
  have hb : ∀ o d, boundE e o d = bound fr o d := by intro o d; cases o <;> simp [boundE, bound, he]
  have hm : ∀ xs : List Opd, xs.map e = xs.map (ev fr) := fun xs => List.map_congr_left fun x _ => he x
  cases q
  case mv x => intro v ht' hs; obtain ⟨rfl, rfl⟩ := pair_inj (show some (e x, ht) = some (v, ht') from hs); exact ⟨h, by simp only [opS, he], r⟩
  case mkif t x => intro v ht' hs; obtain ⟨rfl, rfl⟩ := pair_inj (show some (V.ic t (e x), ht) = some (v, ht') from hs); exact ⟨h, by simp only [opS, he], r⟩
  case mkfn f cs => intro v ht' hs; obtain ⟨rfl, rfl⟩ := pair_inj (show some (V.f f (cs.map e), ht) = some (v, ht') from hs); exact ⟨h, by simp only [opS, hm], r⟩
  case mkmap => intro v ht' hs; obtain ⟨rfl, rfl⟩ := pair_inj (show some (V.m (some ht.n), ht.push (.map [])) = some (v, ht') from hs); exact ⟨_, by simp only [opS, allocS, r.1]; rfl, r.push _⟩
  case alloc z ty => intro v ht' hs; obtain ⟨rfl, rfl⟩ := pair_inj (show some (V.p (some (ht.n, 0)), ht.push (.cells z false (some ty))) = some (v, ht') from hs); exact ⟨_, by simp only [opS, allocS, r.1]; rfl, r.push _⟩
  case box x =>
    intro v ht' hs
    simp only [opH, hBox, opS, allocS, he] at hs ⊢
    cases hc : (ev fr x).cells.all V.one with
    | false => rw [hc] at hs; cases hs
    | true =>
      rw [hc] at hs
      obtain ⟨rfl, rfl⟩ := pair_inj (show some (V.p (some (ht.n, 0)), ht.push (.cells (ev fr x).cells false none)) = some (v, ht') from hs)
      exact ⟨_, by rw [r.1]; rfl, r.push _⟩
  case bslice sz z len parts => simp only [opH, hBslice, opS, allocS, he]; exact putOb_ok r _
  case convSB x => simp only [opH, hConvSB, opS, allocS, he]; exact putOb_ok r _
  case mkslice sz b z l c => simp only [opH, hMkslice, opS, allocS, he]; exact putOb_ok r _
  case load agg n x =>
    intro v ht' hs
    simp only [opH, hLoad, opS, he, getCellsH_eq r] at hs ⊢
    split at hs
    · rename_i id off hx
      simp only [hx]
      split at hs
      · rename_i cs hg
        simp only [hg]
        split at hs
        · rename_i ha; obtain ⟨rfl, rfl⟩ := pair_inj hs; rw [if_pos ha]; exact ⟨h, rfl, r⟩
        · rename_i ha; obtain ⟨z, hz, hh⟩ := map1 hs; injection hh with e1 e2; subst e1; subst e2; rw [if_neg ha]; exact ⟨h, by rw [hz]; rfl, r⟩
      · cases hs
    · cases hs
  case store n a x =>
    intro v ht' hs
    simp only [opH, hStore, opS, he] at hs ⊢
    split at hs
    · rename_i id off hx
      simp only [hx]
      split at hs
      · rename_i hc
        obtain ⟨h1, hset, hh⟩ := map1 hs
        injection hh with e1 e2; subst e1; subst e2
        obtain ⟨h2, h3, h4⟩ := setCellsH_ok r hset
        rw [if_pos hc]
        exact ⟨h2, by rw [h3]; rfl, h4⟩
      · cases hs
    · cases hs
  case eqG neg ks x y =>
    intro v ht' hs
    simp only [opH, hEqG, opS, he] at hs ⊢
    obtain ⟨z, hz, hh⟩ := map1 hs
    injection hh with e1 e2; subst e1; subst e2
    exact ⟨h, by rw [hz]; rfl, r⟩
  case copyL sz x y =>
    intro v ht' hs
    simp only [opH, hCopyL, opS, he, getCellsH_eq r] at hs ⊢
    split at hs
    · rename_i a dl c1 z b sl c2 z' h1 h2
      simp only [h1, h2]
      split at hs
      · rename_i hm
        obtain ⟨rfl, rfl⟩ := pair_inj hs
        rw [if_pos hm]
        exact ⟨h, rfl, r⟩
      · rename_i hm
        rw [if_neg hm]
        split at hs
        · rename_i id off id' off'
          split at hs
          · rename_i hz
            simp only [if_pos hz]
            split at hs
            · rename_i cs hg
              simp only [hg]
              split at hs
              · rename_i hc
                rw [if_pos hc]
                obtain ⟨h1, hset, hh⟩ := map1 hs
                injection hh with e1 e2; subst e1; subst e2
                obtain ⟨h2, h3, h4⟩ := setCellsH_ok r hset
                exact ⟨h2, by rw [h3]; rfl, h4⟩
              · cases hs
            · cases hs
          · cases hs
        · cases hs
    · cases hs
  case clearL sz z x =>
    intro v ht' hs
    simp only [opH, hClearL, opS, he] at hs ⊢
    split at hs
    · rename_i hx; simp only [hx]; obtain ⟨rfl, rfl⟩ := pair_inj hs; exact ⟨h, rfl, r⟩
    · rename_i id off n c z' hx
      simp only [hx]
      split at hs
      · rename_i hn; rw [if_pos hn]; obtain ⟨rfl, rfl⟩ := pair_inj hs; exact ⟨h, rfl, r⟩
      · rename_i hn
        rw [if_neg hn]
        split at hs
        · rename_i hc
          rw [if_pos hc]
          obtain ⟨h1, hset, hh⟩ := map1 hs
          injection hh with e1 e2; subst e1; subst e2
          obtain ⟨h2, h3, h4⟩ := setCellsH_ok r hset
          exact ⟨h2, by rw [h3]; rfl, h4⟩
        · cases hs
    · cases hs
  case convBS x =>
    intro v ht' hs
    simp only [opH, hConvBS, opS, he, getCellsH_eq r] at hs ⊢
    split at hs
    · rename_i hx; simp only [hx]; obtain ⟨rfl, rfl⟩ := pair_inj hs; exact ⟨h, rfl, r⟩
    · rename_i hx
      simp only [hx]
      obtain ⟨l, hl, hh⟩ := map1 hs
      injection hh with e1 e2; subst e1; subst e2
      exact ⟨h, by rw [hl]; rfl, r⟩
    · cases hs
  case lookup kk z x k ok =>
    intro v ht' hs
    simp only [opH, hLookup, opS, he, r.get] at hs ⊢
    (repeat' split at hs) <;> first | (cases hs; done) | (obtain ⟨rfl, rfl⟩ := pair_inj hs; exact ⟨h, by simp [*], r⟩)
  case mupd kk m k x =>
    intro v ht' hs
    simp only [opH, hMupd, opS, he, r.get] at hs ⊢
    (repeat' split at hs) <;> first | (cases hs; done) | (obtain ⟨rfl, rfl⟩ := pair_inj hs; exact ⟨_, by simp [*], r.set _ _⟩)
  case delete kk m k =>
    intro v ht' hs
    simp only [opH, hDelete, opS, he, r.get] at hs ⊢
    (repeat' split at hs) <;> first | (cases hs; done) | (obtain ⟨rfl, rfl⟩ := pair_inj hs; exact ⟨_, by simp [*], r.set _ _⟩) | (obtain ⟨rfl, rfl⟩ := pair_inj hs; exact ⟨h, by simp [*], r⟩)
  case append str sz bytes x y =>
    have := appendH_ok r none str sz bytes (ev fr x) (ev fr y)
    simp only [opH, hAppend, opS, he]
    exact this
  case appendT g str sz bytes x y =>
    have := appendH_ok r (some g) str sz bytes (ev fr x) (ev fr y)
    simp only [opH, hAppendT, opS, he]
    exact this
  case len k x =>
    intro v ht' hs
    simp only [opH, hLen, opS, he, lenH_eq r] at hs ⊢
    obtain ⟨n, hn, hh⟩ := map1 hs
    injection hh with e1 e2; subst e1; subst e2
    exact ⟨h, by rw [hn]; rfl, r⟩
  case sliceA n sz x lo hi =>
    intro v ht' hs
    simp only [opH, hSliceA, opS, hb, he, getCellsH_eq r] at hs ⊢
    (repeat' split at hs) <;> first | (cases hs; done) | (obtain ⟨rfl, rfl⟩ := pair_inj hs; exact ⟨h, by simp [*], r⟩)
  case bin op x y =>
    intro v ht' hs
    simp only [opH, hBin, opS, he, withH] at hs ⊢
    split at hs
    · rename_i z hz; obtain ⟨rfl, rfl⟩ := pair_inj hs; exact ⟨h, by rw [hz]; rfl, r⟩
    · cases hs
  case un op x =>
    intro v ht' hs
    simp only [opH, hUn, opS, he, withH] at hs ⊢
    split at hs
    · rename_i z hz; obtain ⟨rfl, rfl⟩ := pair_inj hs; exact ⟨h, by rw [hz]; rfl, r⟩
    · cases hs
  case field off sz agg x =>
    intro v ht' hs
    simp only [opH, hField, opS, he, withH] at hs ⊢
    (repeat' split at hs) <;> first | (cases hs; done) | (obtain ⟨rfl, rfl⟩ := pair_inj hs; exact ⟨h, by simp [*], r⟩)
  case indexA len sz agg x i =>
    intro v ht' hs
    simp only [opH, hIndexA, opS, he, withH] at hs ⊢
    (repeat' split at hs) <;> first | (cases hs; done) | (obtain ⟨rfl, rfl⟩ := pair_inj hs; exact ⟨h, by simp [*], r⟩)
  case build z parts =>
    intro v ht' hs
    simp only [opH, hBuild, opS, he] at hs ⊢
    obtain ⟨cs, hc, hh⟩ := map1 hs
    injection hh with e1 e2; subst e1; subst e2
    exact ⟨h, by rw [hc]; rfl, r⟩
  case eq neg k x y =>
    intro v ht' hs
    simp only [opH, hEq, opS, he] at hs ⊢
    obtain ⟨cs, hc, hh⟩ := map1 hs
    injection hh with e1 e2; subst e1; subst e2
    exact ⟨h, by rw [hc]; rfl, r⟩
  case indexS x i =>
    intro v ht' hs
    simp only [opH, hIndexS, opS, he] at hs ⊢
    split at hs
    · rename_i l n h1 h2
      simp only [h1, h2]
      obtain ⟨cs, hc, hh⟩ := map1 hs
      injection hh with e1 e2; subst e1; subst e2
      exact ⟨h, by rw [hc]; rfl, r⟩
    · cases hs
  case extract x i =>
    intro v ht' hs
    simp only [opH, hExtract, opS, he] at hs ⊢
    split at hs
    · rename_i l h1
      simp only [h1]
      obtain ⟨cs, hc, hh⟩ := map1 hs
      injection hh with e1 e2; subst e1; subst e2
      exact ⟨h, by rw [hc]; rfl, r⟩
    · cases hs
  case mxmn mx xs =>
    intro v ht' hs
    simp only [opH, hMxmn, opS, hm] at hs ⊢
    split at hs
    · rename_i h1
      simp only [h1]
      obtain ⟨cs, hc, hh⟩ := map1 hs
      injection hh with e1 e2; subst e1; subst e2
      exact ⟨h, by rw [hc]; rfl, r⟩
    · cases hs
  case sliceL sz x lo hi mx =>
    intro v ht' hs
    simp only [opH, hSliceL, opS, he, hb] at hs ⊢
    split at hs
    · rename_i h1
      simp only [h1]
      split at hs
      · rename_i h2 h3 h4
        simp only [h2, h3, h4]
        split at hs
        · rename_i hc
          rw [if_pos hc]
          obtain ⟨rfl, rfl⟩ := pair_inj hs
          exact ⟨h, rfl, r⟩
        · cases hs
      · cases hs
    · cases hs
  case range x => intro v ht' hs; cases hs
  case next x => intro v ht' hs; cases hs
  all_goals (intro v ht' hs)
  all_goals (simp only [opH, hPick, hNil, hConvI, hConvS, hSliceS, hSliceL, hFaddr, hIaddrL, hIaddrA, opS, he, hb] at hs ⊢)
  all_goals ((repeat' split at hs) <;> first | (cases hs; done) | (obtain ⟨rfl, rfl⟩ := pair_inj hs; exact ⟨h, by simp [*], r⟩))
end

abbrev EnvT := Nat → List V → HT → Option (V × HT)

noncomputable def actT (E : EnvT) (t : T V) (h : HT) : Act' → Option (V × HT)
  | .op o => opH o (evT t) h
  | .callf f xs => E f (xs.map (evT t)) h
  | .callv x xs =>
    match evT t x with
    | .f f cs => E f (xs.map (evT t) ++ cs) h
    | _ => none
noncomputable def stepT (E : EnvT) (o : COp) (t : T V) (h : HT) : Option (V × HT) := cond (wantsT t o.gd) (actT E t h o.act) (some (un, h))

noncomputable def runT (E : EnvT) (ops : List COp) : T V → HT → Option (T V × HT) :=
  List.rec (motive := fun _ => T V → HT → Option (T V × HT)) (fun t h => some (t, h)) (fun o _ ih t h => match stepT E o t h with | some (v, h') => ih (putT t o.dst v) h' | none => none) ops

noncomputable def traceT (E : EnvT) (ops : List COp) : T V → HT → Option (List (T V × HT)) :=
  List.rec (motive := fun _ => T V → HT → Option (List (T V × HT))) (fun t h => some [(t, h)]) (fun o _ ih t h => match stepT E o t h with | some (v, h') => (ih (putT t o.dst v) h').map ((t, h) :: ·) | none => none) ops

noncomputable def readAtT (o : COp) (t : T V) (h : HT) : Option V :=
  match o.act with
  | .op q => (opH q (evT t) h).map (·.1)
  | _ => none

noncomputable def chkOneT (ops : List COp) (tr : List (T V × HT)) (q : Nat × List Nat) : Bool :=
  match ops[q.1]?, tr[q.1]? with
  | some o, some (t, h) =>
    !wantsT t o.gd || q.2.all fun j =>
      match tr[j]? with
      | some (_, h') => sameO (readAtT o t h) (readAtT o t h')
      | none => false
  | _, _ => false

noncomputable def achOneT (ops : List COp) (tr : List (T V × HT)) (q : Nat × List Nat) : Bool :=
  match ops[q.1]?, tr[q.1]?, tr[q.1 + 1]? with
  | some o, some (t, h), some (_, h1) =>
    !wantsT t o.gd || q.2.all fun j =>
      match tr[j]? with
      | some (_, h') => sameObj (h1.get h.n) (h'.get h.n)
      | none => false
  | _, _, _ => false

noncomputable def iterT (f : T V → HT → Option (X × T V × HT)) (n : Nat) : T V → HT → Option (X × T V × HT) :=
  Nat.rec (motive := fun _ => T V → HT → Option (X × T V × HT)) (fun _ _ => none) (fun _ ih t h => match f t h with | some (.nrm, t', h') => ih t' h' | r => r) n

noncomputable def execT (E : EnvT) (n : Nat) (c : C) : T V → HT → Option (X × T V × HT) :=
  C.rec (motive := fun _ => T V → HT → Option (X × T V × HT))
    (fun t h => some (.nrm, t, h))
    (fun ops t h => (runT E ops t h).map fun r => (.nrm, r.1, r.2))
    (fun ops chk ach t h =>
      match runT E ops t h with
      | none => none
      | some r =>
        cond (chk.isEmpty && ach.isEmpty) (some (.nrm, r.1, r.2))
          (match traceT E ops t h with
          | none => none
          | some tr => cond (chk.all (chkOneT ops tr) && ach.all (achOneT ops tr)) (some (.nrm, r.1, r.2)) none))
    (fun _ _ a b t h => match a t h with | some (.nrm, t', h') => b t' h' | r => r)
    (fun c _ _ a b t h => match evT t c with | .b true => a t h | .b false => b t h | _ => none)
    (fun id _ a t h => match a t h with | some (.ex j, t', h') => cond (Nat.beq j id) (some (.nrm, t', h')) (some (.ex j, t', h')) | r => r)
    (fun _ a t h => iterT a n t h)
    (fun id t h => some (.ex id, t, h))
    (fun t h => some (.ret, t, h)) c

noncomputable def resOneT (t : T V) (h : HT) : RV → Option V
  | .tm n => some (t.get n)
  | .cell n agg k =>
    match t.get n with
    | .p (some (id, off)) =>
      match getCellsH h id off k with
      | some cs => if agg then some (.g cs) else cs[0]?
      | none => none
    | _ => none
noncomputable def resAllT (t : T V) (h : HT) : List RV → Option (List V)
  | [] => some []
  | r :: rs =>
    match resOneT t h r, resAllT t h rs with
    | some v, some vs => some (v :: vs)
    | _, _ => none
noncomputable def resVT (t : T V) (h : HT) (rs : List RV) : Option V :=
  (resAllT t h rs).map fun
    | [v] => v
    | vs => .t vs

noncomputable def bodyT (E : EnvT) (n : Nat) (c : CF) (args : List V) (h : HT) : Option (V × HT) :=
  cond (Nat.blt c.nt 65536 && Nat.ble args.length c.nt)
    (match execT E n c.body (frameT c.nt args) h with
    | some (.nrm, t, h') => (resVT t h' c.res).map (·, h')
    | some (.ret, t, h') => (resVT t h' c.res).map (·, h')
    | _ => none) none

/-- `sk f`: f is taken by its contract, and comes to what `OT f` says. -/
noncomputable def callT (sk : Nat → Bool) (OT : Nat → List V → HT → Option (V × HT)) (F : Nat → Option CF) (n : Nat) : EnvT :=
  Nat.rec (motive := fun _ => EnvT) (fun _ _ _ => none) (fun n ih f args h =>
      cond (sk f) (OT f args h)
      (match F f with
      | none => none
      | some c => bodyT ih n c args h)) n

/-! ### It answers as the machine does -/
def Sim (E' : EnvT) (E : Env) : Prop := ∀ f args ht h, RH ht h → RO (E' f args ht) (E f args h)

section
variable {E' : EnvT} {E : Env} {t : T V} {fr : List V} {ht : HT} {h : Heap}

theorem RT.evs (hr : RT t fr) (xs : List Opd) : xs.map (evT t) = xs.map (Am.ev fr) := List.map_congr_left fun x _ => hr.ev x

theorem stepT_ok (hE : Sim E' E) (hr : RT t fr) (r : RH ht h) (o : COp) : RO (stepT E' o t ht) (stepS E o fr h) := by
  unfold stepT stepS
  rw [hr.wants]
  cases hw : wants fr o.gd with
  | false =>
    intro v ht' hs
    obtain ⟨rfl, rfl⟩ := pair_inj (show some (un, ht) = some (v, ht') from hs)
    exact ⟨h, rfl, r⟩
  | true =>
    simp only [cond, if_true]
    unfold actT actS
    cases o.act with
    | op q => exact opH_ok r (fun x => hr.ev x) q
    | callf f xs => simp only [hr.evs]; exact hE _ _ _ _ r
    | callv x xs =>
      simp only [hr.ev, hr.evs]
      intro v ht' hs
      split at hs
      · rename_i f cs hx; simp only [hx]; exact hE _ _ _ _ r _ _ hs
      · cases hs

theorem runT_ok (hE : Sim E' E) : ∀ (ops : List COp) {t : T V} {fr : List V} {ht : HT} {h : Heap}, RT t fr → RH ht h → ∀ {t' : T V} {ht' : HT}, runT E' ops t ht = some (t', ht') → ∃ fr' h', runOps E ops fr h = some (fr', h') ∧ RT t' fr' ∧ RH ht' h' := by
  intro ops
  induction ops with
  | nil =>
    intro t fr ht h hr r t' ht' hs
    obtain ⟨rfl, rfl⟩ := pair_inj (show some (t, ht) = some (t', ht') from hs)
    exact ⟨fr, h, rfl, hr, r⟩
  | cons o ops ih =>
    intro t fr ht h hr r t' ht' hs
    have hs : (match stepT E' o t ht with | some (v, h') => runT E' ops (putT t o.dst v) h' | none => none) = some (t', ht') := hs
    split at hs
    · rename_i v ht1 hst
      obtain ⟨h1, h2, h3⟩ := stepT_ok hE hr r o _ _ hst
      obtain ⟨fr', h', h4, h5, h6⟩ := ih (hr.put o.dst v) h3 hs
      exact ⟨fr', h', by simp only [runOps, h2]; exact h4, h5, h6⟩
    · cases hs

theorem traceT_ok (hE : Sim E' E) : ∀ (ops : List COp) {t : T V} {fr : List V} {ht : HT} {h : Heap}, RT t fr → RH ht h → ∀ {tr' : List (T V × HT)}, traceT E' ops t ht = some tr' → ∃ tr, trace E ops fr h = some tr ∧ ∀ (k : Nat) (p : T V × HT), tr'[k]? = some p → ∃ fr h, tr[k]? = some (fr, h) ∧ RT p.1 fr ∧ RH p.2 h := by
  intro ops
  induction ops with
  | nil =>
    intro t fr ht h hr r tr' hs
    have hs : some [(t, ht)] = some tr' := hs
    injection hs with hs
    subst hs
    refine ⟨[(fr, h)], rfl, fun k p hk => ?_⟩
    cases k with
    | zero => simp at hk; subst hk; exact ⟨fr, h, rfl, hr, r⟩
    | succ k => simp at hk
  | cons o ops ih =>
    intro t fr ht h hr r tr' hs
    have hs : (match stepT E' o t ht with | some (v, h') => (traceT E' ops (putT t o.dst v) h').map ((t, ht) :: ·) | none => none) = some tr' := hs
    split at hs
    · rename_i v ht1 hst
      obtain ⟨h1, h2, h3⟩ := stepT_ok hE hr r o _ _ hst
      obtain ⟨tr1, h4, rfl⟩ := map1 hs
      obtain ⟨tr, h5, h6⟩ := ih (hr.put o.dst v) h3 h4
      refine ⟨(fr, h) :: tr, by simp only [trace, h2, h5]; rfl, fun k p hk => ?_⟩
      cases k with
      | zero => simp at hk; subst hk; exact ⟨fr, h, rfl, hr, r⟩
      | succ k => simpa using h6 k p (by simpa using hk)
    · cases hs

def TrT (tr' : List (T V × HT)) (tr : List (List V × Heap)) : Prop := ∀ (k : Nat) (p : T V × HT), tr'[k]? = some p → ∃ fr h, tr[k]? = some (fr, h) ∧ RT p.1 fr ∧ RH p.2 h

theorem readAtT_ok (hr : RT t fr) (r : RH ht h) (o : COp) {v : V} (hs : readAtT o t ht = some v) : readAt o fr h = some v := by
  unfold readAtT at hs
  unfold readAt
  split at hs
  · rename_i q hq
    rw [hq]
    obtain ⟨⟨v', ht'⟩, h1, h2⟩ := map1 hs
    obtain ⟨h', h3, h4⟩ := opH_ok r (fun x => hr.ev x) q _ _ h1
    simp only at h2 ⊢
    rw [h3, ← h2]
    rfl
  · cases hs

theorem sameO_some {a b : Option V} (h : sameO a b = true) : ∃ x y, a = some x ∧ b = some y ∧ same x y = true := by
  unfold sameO at h
  split at h
  · exact ⟨_, _, rfl, rfl, h⟩
  · cases h

theorem chkOneT_ok {ops : List COp} {tr' : List (T V × HT)} {tr : List (List V × Heap)} (ht : TrT tr' tr) {q : Nat × List Nat} (hc : chkOneT ops tr' q = true) : chkOne ops tr q = true := by
  unfold chkOneT at hc
  unfold chkOne
  split at hc
  · rename_i o t h h1 h2
    obtain ⟨fr, hh, h3, h4, h5⟩ := ht _ _ h2
    simp only [h1, h3]
    rw [h4.wants] at hc
    cases hw : wants fr o.gd with
    | false => rfl
    | true =>
      rw [hw] at hc
      simp only [Bool.not_true, Bool.false_or] at hc ⊢
      rw [List.all_eq_true] at hc ⊢
      intro j hj
      have := hc j hj
      split at this
      · rename_i t2 h' h6
        obtain ⟨fr2, hh2, h7, _, h8⟩ := ht _ _ h6
        simp only [h7]
        obtain ⟨x, y, hx, hy, hxy⟩ := sameO_some this
        rw [readAtT_ok h4 h5 o hx, readAtT_ok h4 h8 o hy]
        exact hxy
      · cases this
  · cases hc

theorem achOneT_ok {ops : List COp} {tr' : List (T V × HT)} {tr : List (List V × Heap)} (ht : TrT tr' tr) {q : Nat × List Nat} (hc : achOneT ops tr' q = true) : achOne ops tr q = true := by
  unfold achOneT at hc
  unfold achOne
  split at hc
  · rename_i o t h t1 hh1 h1 h2 h2'
    obtain ⟨fr, hh, h3, h4, h5⟩ := ht _ _ h2
    obtain ⟨fr1, hhh, h3', _, h5'⟩ := ht _ _ h2'
    simp only [h1, h3, h3']
    rw [h4.wants] at hc
    cases hw : wants fr o.gd with
    | false => rfl
    | true =>
      rw [hw] at hc
      simp only [Bool.not_true, Bool.false_or] at hc ⊢
      rw [List.all_eq_true] at hc ⊢
      intro j hj
      have := hc j hj
      split at this
      · rename_i t2 h' h6
        obtain ⟨fr2, hh2, h7, _, h8⟩ := ht _ _ h6
        simp only [h7]
        rw [h8.get, h5'.get] at this
        have e : h.n = hh.length := h5.1
        rw [e] at this
        exact this
      · cases this
  · cases hc

def SimX (f' : T V → HT → Option (X × T V × HT)) (f : List V → Heap → Option (X × List V × Heap)) : Prop :=
  ∀ t fr ht h x t' ht', RT t fr → RH ht h → f' t ht = some (x, t', ht') → ∃ fr' h', f fr h = some (x, fr', h') ∧ RT t' fr' ∧ RH ht' h'

theorem trip {α β γ : Type} {a a' : α} {b b' : β} {c c' : γ} (h : some (a, b, c) = some (a', b', c')) : a' = a ∧ b' = b ∧ c' = c := by
  injection h with h; injection h with e1 e2; injection e2 with e2 e3; exact ⟨e1.symm, e2.symm, e3.symm⟩

theorem iterT_ok {f' : T V → HT → Option (X × T V × HT)} {f : List V → Heap → Option (X × List V × Heap)} (hf : SimX f' f) : ∀ n, SimX (iterT f' n) (iter f n) := by
  intro n
  induction n with
  | zero => intro t fr ht h x t' h' hr r hs; exact absurd hs (by show ¬ (none : Option (X × T V × HT)) = _; simp)
  | succ n ih =>
    intro t fr ht h x t' ht' hr r hs
    have hs : (match f' t ht with | some (.nrm, t', h') => iterT f' n t' h' | r => r) = some (x, t', ht') := hs
    split at hs
    · rename_i t1 ht1 he
      obtain ⟨fr1, h1, h2, h3, h4⟩ := hf _ _ _ _ _ _ _ hr r he
      obtain ⟨fr', h', h5, h6⟩ := ih _ _ _ _ _ _ _ h3 h4 hs
      exact ⟨fr', h', by simp only [iter, h2]; exact h5, h6⟩
    · rename_i hno
      obtain ⟨fr1, h1, h2, h3, h4⟩ := hf _ _ _ _ _ _ _ hr r hs
      refine ⟨fr1, h1, ?_, h3, h4⟩
      simp only [iter, h2]
      cases x with
      | nrm => exact (hno _ _ hs).elim
      | ret => rfl
      | ex j => rfl

theorem execT_ok (hE : Sim E' E) (n : Nat) : ∀ c : C, SimX (execT E' n c) (exec E n c) := by
  intro c
  induction c with
  | skip =>
    intro t fr ht h x t' ht' hr r hs
    obtain ⟨rfl, rfl, rfl⟩ := trip (show some (X.nrm, t, ht) = some (x, t', ht') from hs)
    exact ⟨fr, h, rfl, hr, r⟩
  | reg ops =>
    intro t fr ht h x t' ht' hr r hs
    have hs : (runT E' ops t ht).map (fun r => (X.nrm, r.1, r.2)) = some (x, t', ht') := hs
    obtain ⟨⟨t1, ht1⟩, h2, e⟩ := map1 hs
    injection e with e1 e2; injection e2 with e2 e3
    subst e1; subst e2; subst e3
    obtain ⟨fr', h', h3, h4⟩ := runT_ok hE ops hr r h2
    exact ⟨fr', h', by simp [exec, h3], h4⟩
  | draw ops chk ach =>
    intro t fr ht h x t' ht' hr r hs
    have hs : (match runT E' ops t ht with
      | none => none
      | some r =>
        cond (chk.isEmpty && ach.isEmpty) (some (X.nrm, r.1, r.2))
          (match traceT E' ops t ht with
          | none => none
          | some tr => cond (chk.all (chkOneT ops tr) && ach.all (achOneT ops tr)) (some (X.nrm, r.1, r.2)) none)) = some (x, t', ht') := hs
    split at hs
    · cases hs
    · rename_i rr h2
      obtain ⟨t1, ht1⟩ := rr
      obtain ⟨fr', h', h3, h4⟩ := runT_ok hE ops hr r h2
      simp only [exec, h3]
      cases hc : chk.isEmpty && ach.isEmpty with
      | true =>
        rw [hc] at hs
        obtain ⟨rfl, rfl, rfl⟩ := trip (show some (X.nrm, t1, ht1) = some (x, t', ht') from hs)
        exact ⟨fr', h', rfl, h4⟩
      | false =>
        rw [hc] at hs
        simp only [cond] at hs
        split at hs
        · cases hs
        · rename_i tr' htr
          obtain ⟨tr, h5, h6⟩ := traceT_ok hE ops hr r htr
          cases hc2 : chk.all (chkOneT ops tr') && ach.all (achOneT ops tr') with
          | false => rw [hc2] at hs; simp at hs
          | true =>
            rw [hc2] at hs
            obtain ⟨rfl, rfl, rfl⟩ := trip (show some (X.nrm, t1, ht1) = some (x, t', ht') from hs)
            rw [Bool.and_eq_true, List.all_eq_true, List.all_eq_true] at hc2
            have a1 : chk.all (chkOne ops tr) = true := List.all_eq_true.2 fun q hq => chkOneT_ok h6 (hc2.1 q hq)
            have a2 : ach.all (achOne ops tr) = true := List.all_eq_true.2 fun q hq => achOneT_ok h6 (hc2.2 q hq)
            exact ⟨fr', h', by simp [h5, a1, a2], h4⟩
  | seq a b iha ihb =>
    intro t fr ht h x t' ht' hr r hs
    have hs : (match execT E' n a t ht with | some (.nrm, t', h') => execT E' n b t' h' | r => r) = some (x, t', ht') := hs
    split at hs
    · rename_i t1 ht1 he
      obtain ⟨fr1, h1, h2, h3, h4⟩ := iha _ _ _ _ _ _ _ hr r he
      obtain ⟨fr', h', h5, h6⟩ := ihb _ _ _ _ _ _ _ h3 h4 hs
      exact ⟨fr', h', by simp only [exec, h2]; exact h5, h6⟩
    · rename_i hno
      obtain ⟨fr1, h1, h2, h3, h4⟩ := iha _ _ _ _ _ _ _ hr r hs
      refine ⟨fr1, h1, ?_, h3, h4⟩
      simp only [exec, h2]
      cases x with
      | nrm => exact (hno _ _ hs).elim
      | ret => rfl
      | ex j => rfl
  | cond c a b iha ihb =>
    intro t fr ht h x t' ht' hr r hs
    have hs : (match evT t c with | .b true => execT E' n a t ht | .b false => execT E' n b t ht | _ => none) = some (x, t', ht') := hs
    rw [hr.ev] at hs
    simp only [exec]
    split at hs
    · rename_i hc; rw [hc]; exact iha _ _ _ _ _ _ _ hr r hs
    · rename_i hc; rw [hc]; exact ihb _ _ _ _ _ _ _ hr r hs
    · cases hs
  | blk id a iha =>
    intro t fr ht h x t' ht' hr r hs
    have hs : (match execT E' n a t ht with | some (.ex j, t', h') => cond (Nat.beq j id) (some (X.nrm, t', h')) (some (.ex j, t', h')) | r => r) = some (x, t', ht') := hs
    simp only [exec]
    split at hs
    · rename_i j t1 ht1 he
      obtain ⟨fr1, h1, h2, h3⟩ := iha _ _ _ _ _ _ _ hr r he
      rw [h2]
      cases hj : Nat.beq j id with
      | true =>
        rw [hj] at hs
        obtain ⟨rfl, rfl, rfl⟩ := trip (show some (X.nrm, t1, ht1) = some (x, t', ht') from hs)
        exact ⟨fr1, h1, by simp [Nat.eq_of_beq_eq_true hj], h3⟩
      | false =>
        rw [hj] at hs
        obtain ⟨rfl, rfl, rfl⟩ := trip (show some (X.ex j, t1, ht1) = some (x, t', ht') from hs)
        exact ⟨fr1, h1, by simp [Nat.ne_of_beq_eq_false hj], h3⟩
    · rename_i hno
      obtain ⟨fr1, h1, h2, h3⟩ := iha _ _ _ _ _ _ _ hr r hs
      refine ⟨fr1, h1, ?_, h3⟩
      rw [h2]
      cases x with
      | nrm => rfl
      | ret => rfl
      | ex j => exact (hno _ _ _ hs).elim
  | loop a iha =>
    intro t fr ht h x t' ht' hr r hs
    exact iterT_ok iha n _ _ _ _ _ _ _ hr r hs
  | exit id =>
    intro t fr ht h x t' ht' hr r hs
    obtain ⟨rfl, rfl, rfl⟩ := trip (show some (X.ex id, t, ht) = some (x, t', ht') from hs)
    exact ⟨fr, h, rfl, hr, r⟩
  | ret =>
    intro t fr ht h x t' ht' hr r hs
    obtain ⟨rfl, rfl, rfl⟩ := trip (show some (X.ret, t, ht) = some (x, t', ht') from hs)
    exact ⟨fr, h, rfl, hr, r⟩

theorem resOneT_ok (hr : RT t fr) (r : RH ht h) (q : RV) : resOneT t ht q = resOne fr h q := by
  cases q with
  | tm n => simp only [resOneT, resOne, hr.get]
  | cell n agg k => simp only [resOneT, resOne, hr.get, getCellsH_eq r]; rfl
theorem resAllT_ok (hr : RT t fr) (r : RH ht h) : ∀ l, resAllT t ht l = resAll fr h l := by
  intro l
  induction l with
  | nil => rfl
  | cons q l ih => simp only [resAllT, resAll, resOneT_ok hr r, ih]; rfl
theorem resVT_ok (hr : RT t fr) (r : RH ht h) (l : List RV) : resVT t ht l = resV fr h l := by
  unfold resVT resV
  rw [resAllT_ok hr r]
  rfl

theorem bodyT_ok (hE : Sim E' E) (n : Nat) (c : CF) (args : List V) (r : RH ht h) : RO (bodyT E' n c args ht) (match exec E n c.body (frame0 c.nt args) h with
        | some (.nrm, fr, h') => (resV fr h' c.res).map (·, h')
        | some (.ret, fr, h') => (resV fr h' c.res).map (·, h')
        | _ => none) := by
  intro v ht' hs
  unfold bodyT at hs
  cases hc : Nat.blt c.nt 65536 && Nat.ble args.length c.nt with
  | false => rw [hc] at hs; simp at hs
  | true =>
    rw [hc] at hs
    simp only [cond] at hs
    rw [Bool.and_eq_true] at hc
    have h1 : c.nt < 65536 := Nat.le_of_ble_eq_true hc.1
    have h2 : args.length ≤ c.nt := Nat.le_of_ble_eq_true hc.2
    have hr := frameT_ok h1 h2
    split at hs
    · rename_i t h' he
      obtain ⟨fr', h'', h3, h4, h5⟩ := execT_ok hE n _ _ _ _ _ _ _ _ hr r he
      rw [h3]
      rw [resVT_ok h4 h5] at hs
      obtain ⟨z, hz, e⟩ := map1 hs
      injection e with e1 e2
      subst e1; subst e2
      exact ⟨h'', by simp [hz], h5⟩
    · rename_i t h' he
      obtain ⟨fr', h'', h3, h4, h5⟩ := execT_ok hE n _ _ _ _ _ _ _ _ hr r he
      rw [h3]
      rw [resVT_ok h4 h5] at hs
      obtain ⟨z, hz, e⟩ := map1 hs
      injection e with e1 e2
      subst e1; subst e2
      exact ⟨h'', by simp [hz], h5⟩
    · cases hs

theorem callT_ok {sk : Nat → Bool} {OT : Nat → List V → HT → Option (V × HT)} {O : Nat → Option (List V → Heap → Option (V × Heap))} (h0 : ∀ f, sk f = false → O f = none) (h1 : ∀ f, sk f = true → ∃ g, O f = some g ∧ ∀ args ht h, RH ht h → RO (OT f args ht) (g args h)) (F : Nat → Option CF) : ∀ n, Sim (callT sk OT F n) (call O F n) := by
  intro n
  induction n with
  | zero => intro f args ht h r v ht' hs; exact absurd hs (by show ¬ (none : Option (V × HT)) = _; simp)
  | succ n ih =>
    intro f args ht h r v ht' hs
    have hs : cond (sk f) (OT f args ht) (match F f with | none => none | some c => bodyT (callT sk OT F n) n c args ht) = some (v, ht') := hs
    simp only [call]
    cases hk : sk f with
    | true =>
      rw [hk] at hs
      obtain ⟨g, hg, hr⟩ := h1 f hk
      rw [hg]
      exact hr args ht h r _ _ hs
    | false =>
      rw [hk] at hs
      rw [h0 f hk]
      simp only [cond] at hs
      split at hs
      · cases hs
      · rename_i c hc
        rw [hc]
        exact bodyT_ok ih n c args r _ _ hs
end
end Am
end Go.Proofs.YtcndgnddipbbgaaGreat
