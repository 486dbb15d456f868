/-
  THE ABSTRACT MACHINE, part S: the rules by which a walk is rewritten (the set go_sem, which is the walks' own here).
  Conditions: none (lemmas).
-/
import Derived.Test.YtcndgnddipbbgaaGreatAmW
import Derived.Attr
set_option linter.unusedVariables false
set_option linter.unusedSimpArgs false
namespace Go.Proofs.YtcndgnddipbbgaaGreat
namespace Am

attribute [go_sem] Un_seq Un_skip Un_exit Un_retc Un_reg Un_cond Br_t Br_f Gd_t Gd_f wt_t wt_f wt_un Un_blk Un_ops_nil Po_some Pv_f Un_op Un_callf Un_callv Un_guard Un_draw Un_dops_nil Un_opD Un_callfD Un_callvD Un_guardD Un_pop_nrm Un_pop_ex Un_pop_ret Un_code_ex Un_code_ret Un_again_ex Un_again_ret Un_nil
attribute [go_sem] up_same up_ne ev_tm ev_k ev_fn ev_gl put_none put_some ar_zero ar_succ ar_nil wants_none wants_some resAll frL_get
attribute [go_sem] chkOne achOne readAt sameO same same1 sameL sameObj sameP List.reverse_cons List.reverse_nil Bool.or_true Bool.or_false Bool.true_or Bool.false_or Bool.and_true Bool.and_false Bool.true_and Bool.false_and binI binStr unV eqV zV partS bound keyFit fillS intsMax reps
attribute [go_sem] List.map_cons List.map_nil Option.map_some Option.map_none Option.bind_some Option.bind_none Option.some.injEq Prod.mk.injEq
attribute [go_sem] Option.isSome_some Option.isSome_none Option.getD_some Option.getD_none Option.isNone_some Option.isNone_none
attribute [go_sem] decide_true decide_false decide_not beq_iff_eq bne_iff_ne decide_eq_true_eq decide_eq_false_iff_not Bool.not_eq_true' Bool.not_eq_true Bool.not_eq_false Bool.not_true Bool.not_false Bool.and_eq_true Bool.or_eq_true Bool.not_not beq_self_eq_true
attribute [go_sem] if_true if_false ne_eq not_true_eq_false not_false_eq_true true_and and_true false_and and_false true_or or_true false_or or_false eq_self true_implies false_implies implies_true reduceCtorEq
attribute [go_sem] Nat.zero_add Nat.add_zero Nat.zero_le Nat.not_lt_zero Nat.le_refl Int.natCast_nonneg Int.toNat_natCast Int.natCast_inj Nat.sub_zero Nat.zero_mul Nat.mul_one Nat.one_mul
attribute [go_sem] List.length_cons List.length_nil List.getElem?_cons_zero List.getElem?_cons_succ List.getElem?_nil List.drop_succ_cons List.drop_zero List.drop_nil List.take_succ_cons List.take_zero List.take_nil List.set_cons_zero List.set_cons_succ List.cons_append List.nil_append List.append_nil List.append_assoc List.all_cons List.all_nil List.map_cons
attribute [go_sem] V.cells V.one V.p.injEq V.i.injEq V.b.injEq V.s.injEq

section
variable {fr : List V} {h : Heap}
/-! ### Operations -/
theorem op_mv (x : Opd) : opS (.mv x) fr h = some (ev fr x, h) := rfl
theorem op_box (x : Opd) : opS (.box x) fr h = if (ev fr x).cells.all V.one = true then some (.p (some (h.length, 0)), h ++ [.cells (ev fr x).cells false none]) else none := by
  simp only [opS, allocS]; split <;> rfl
theorem op_alloc (z : List V) (t : Nat) : opS (.alloc z t) fr h = some (.p (some (h.length, 0)), h ++ [.cells z false (some t)]) := rfl
theorem op_mkmap : opS .mkmap fr h = some (.m (some h.length), h ++ [.map []]) := rfl
theorem op_un (op : UnOp) (x : Opd) : opS (.un op x) fr h = (unV op (ev fr x)).map (·, h) := rfl
/-- A choice. -/
def pk (c a b : V) (h : Heap) : Option (V × Heap) := match c with | .b true => some (a, h) | .b false => some (b, h) | _ => none
theorem op_pick (c a b : Opd) : opS (.pick c a b) fr h = pk (ev fr c) (ev fr a) (ev fr b) h := rfl
theorem pk_t (a b : V) : pk (.b true) a b h = some (a, h) := rfl
theorem pk_f (a b : V) : pk (.b false) a b h = some (b, h) := rfl
theorem pk_b (x y z : Bool) : pk (.b x) (.b y) (.b z) h = some (.b (if x = true then y else z), h) := by cases x <;> rfl
/-- Two operands' outcome. -/
def bn (op : BinOp) (a b : V) (h : Heap) : Option (V × Heap) := (binV op a b).map (·, h)
theorem op_bin (op : BinOp) (x y : Opd) : opS (.bin op x y) fr h = bn op (ev fr x) (ev fr y) h := rfl
theorem bn_add (k : IntKind) (a b : Int) : bn .add (.i k a) (.i k b) h = some (.i k (k.wrap (a + b)), h) := by simp [bn, binV, binI]
theorem bn_sub (k : IntKind) (a b : Int) : bn .sub (.i k a) (.i k b) h = some (.i k (k.wrap (a - b)), h) := by simp [bn, binV, binI]
theorem bn_mul (k : IntKind) (a b : Int) : bn .mul (.i k a) (.i k b) h = some (.i k (k.wrap (a * b)), h) := by simp [bn, binV, binI]
theorem bn_quo (k : IntKind) (a b : Int) (hb : b ≠ 0) : bn .quo (.i k a) (.i k b) h = some (.i k (k.wrap (a.tdiv b)), h) := by simp [bn, binV, binI, hb]
theorem bn_rem (k : IntKind) (a b : Int) (hb : b ≠ 0) : bn .rem (.i k a) (.i k b) h = some (.i k (a.tmod b), h) := by simp [bn, binV, binI, hb]
theorem bn_and (k : IntKind) (a b : Int) : bn .and (.i k a) (.i k b) h = some (.i k (k.wrap (BitVec.ofInt k.bits a &&& BitVec.ofInt k.bits b).toNat), h) := by simp [bn, binV, binI]
theorem bn_or (k : IntKind) (a b : Int) : bn .or (.i k a) (.i k b) h = some (.i k (k.wrap (BitVec.ofInt k.bits a ||| BitVec.ofInt k.bits b).toNat), h) := by simp [bn, binV, binI]
theorem bn_xor (k : IntKind) (a b : Int) : bn .xor (.i k a) (.i k b) h = some (.i k (k.wrap (BitVec.ofInt k.bits a ^^^ BitVec.ofInt k.bits b).toNat), h) := by simp [bn, binV, binI]
theorem bn_eql (k : IntKind) (a b : Int) : bn .eql (.i k a) (.i k b) h = some (.b (decide (a = b)), h) := by simp [bn, binV, binI]; rfl
theorem bn_neq (k : IntKind) (a b : Int) : bn .neq (.i k a) (.i k b) h = some (.b (!decide (a = b)), h) := by simp [bn, binV, binI]; rfl
theorem bn_lss (k : IntKind) (a b : Int) : bn .lss (.i k a) (.i k b) h = some (.b (decide (a < b)), h) := by simp [bn, binV, binI]
theorem bn_leq (k : IntKind) (a b : Int) : bn .leq (.i k a) (.i k b) h = some (.b (decide (a ≤ b)), h) := by simp [bn, binV, binI]
theorem bn_gtr (k : IntKind) (a b : Int) : bn .gtr (.i k a) (.i k b) h = some (.b (decide (b < a)), h) := by simp [bn, binV, binI]
theorem bn_geq (k : IntKind) (a b : Int) : bn .geq (.i k a) (.i k b) h = some (.b (decide (b ≤ a)), h) := by simp [bn, binV, binI]
theorem bn_shl (k k' : IntKind) (a b : Int) (hb : 0 ≤ b) : bn .shl (.i k a) (.i k' b) h = some (.i k (k.wrap (a * 2 ^ min b.toNat k.bits)), h) := by simp [bn, binV, shiftI, show ¬ b < 0 by omega]
theorem bn_shr (k k' : IntKind) (a b : Int) (hb : 0 ≤ b) : bn .shr (.i k a) (.i k' b) h = some (.i k (a.fdiv (2 ^ min b.toNat k.bits)), h) := by simp [bn, binV, shiftI, show ¬ b < 0 by omega]
theorem bn_s_eql (a b : List UInt8) : bn .eql (.s a) (.s b) h = some (.b (decide (a = b)), h) := by simp only [bn, binV, binStr, Option.map_some]; congr 3; rw [Bool.eq_iff_iff]; simp
theorem bn_s_neq (a b : List UInt8) : bn .neq (.s a) (.s b) h = some (.b (!decide (a = b)), h) := by simp only [bn, binV, binStr, Option.map_some]; congr 4; rw [Bool.eq_iff_iff]; simp
theorem bn_s_add (a b : List UInt8) (hl : a.length + b.length ≤ 4611686018427387904) : bn .add (.s a) (.s b) h = some (.s (a ++ b), h) := by simp [bn, binV, binStr, hl]
theorem un_not (x : Bool) : unV .not (.b x) = some (.b !x) := rfl
theorem op_eq (neg : Bool) (k : EqK) (x y : Opd) : opS (.eq neg k x y) fr h = (eqV k (ev fr x) (ev fr y)).map fun r => (.b (if neg = true then !r else r), h) := by
  simp only [opS]
def cvI (k : IntKind) (x : V) (h : Heap) : Option (V × Heap) := match x with | .i _ n => some (.i k (k.wrap n), h) | _ => none
theorem op_convI (k : IntKind) (x : Opd) : opS (.convI k x) fr h = cvI k (ev fr x) h := rfl
theorem cvI_i (k k' : IntKind) (n : Int) : cvI k (.i k' n) h = some (.i k (k.wrap n), h) := rfl
def cvS (x : V) (h : Heap) : Option (V × Heap) := match x with | .s l => some (.s l, h) | _ => none
theorem op_convS (x : Opd) : opS (.convS x) fr h = cvS (ev fr x) h := rfl
theorem cvS_s (l : List UInt8) : cvS (.s l) h = some (.s l, h) := rfl
def nl (x : V) (h : Heap) : Option (V × Heap) := match x with | .p none => none | .ni => none | .nf => none | v => some (v, h)
theorem op_nilck (x : Opd) : opS (.nilck x) fr h = nl (ev fr x) h := rfl
theorem nl_p (a : Nat × Nat) : nl (.p (some a)) h = some (.p (some a), h) := rfl
theorem nl_f (f : Nat) (cs : List V) : nl (.f f cs) h = some (.f f cs, h) := rfl
theorem op_mkfn (f : Nat) (cs : List Opd) : opS (.mkfn f cs) fr h = some (.f f (cs.map (ev fr)), h) := rfl
theorem op_mkif (t : Nat) (x : Opd) : opS (.mkif t x) fr h = some (.ic t (ev fr x), h) := rfl
def fa (off : Nat) (x : V) (h : Heap) : Option (V × Heap) := match x with | .p (some (id, o)) => some (.p (some (id, o + off)), h) | _ => none
theorem op_faddr (off : Nat) (x : Opd) : opS (.faddr off x) fr h = fa off (ev fr x) h := rfl
theorem fa_p (off id o : Nat) : fa off (.p (some (id, o))) h = some (.p (some (id, o + off)), h) := rfl
def fd (off sz : Nat) (agg : Bool) (x : V) (h : Heap) : Option (V × Heap) := match x with | .g cs => (partS agg cs off sz).map (·, h) | _ => none
theorem op_field (off sz : Nat) (agg : Bool) (x : Opd) : opS (.field off sz agg x) fr h = fd off sz agg (ev fr x) h := rfl
theorem fd_one (off sz : Nat) (cs : List V) : fd off sz false (.g cs) h = (cs[off]?).map (·, h) := rfl
theorem fd_agg (off sz : Nat) (cs : List V) : fd off sz true (.g cs) h = if off + sz ≤ cs.length then some (.g ((cs.drop off).take sz), h) else none := by
  simp only [fd, partS, if_true]; split <;> rfl
/-! ### Loads, stores -/
def ld1 (h : Heap) (x : V) : Option (V × Heap) :=
  match x with
  | .p (some (id, off)) => match h[id]? with | some (.cells vs _ _) => (vs[off]?).map (·, h) | _ => none
  | _ => none
def ldA (n : Nat) (h : Heap) (x : V) : Option (V × Heap) :=
  match x with
  | .p (some (id, off)) => match h[id]? with | some (.cells vs _ _) => if off + n ≤ vs.length then some (.g ((vs.drop off).take n), h) else none | _ => none
  | _ => none
theorem op_load1 (x : Opd) : opS (.load false 1 x) fr h = ld1 h (ev fr x) := by
  simp only [opS, ld1]
  generalize ev fr x = z
  cases z with
  | p a =>
    cases a with
    | none => rfl
    | some q =>
      obtain ⟨id, off⟩ := q
      simp only [getCells]
      cases ho : h[id]? with
      | none => rfl
      | some ob =>
        cases ob with
        | cells vs ro ty =>
          simp only
          by_cases hl : off + 1 ≤ vs.length
          · rw [if_pos hl]
            simp [List.getElem?_take, List.getElem?_drop]
          · rw [if_neg hl]
            simp [List.getElem?_eq_none (show vs.length ≤ off by omega)]
        | _ => rfl
  | _ => rfl
theorem op_loadA (n : Nat) (x : Opd) : opS (.load true n x) fr h = ldA n h (ev fr x) := by
  simp only [opS, ldA]
  generalize ev fr x = z
  cases z with
  | p a =>
    cases a with
    | none => rfl
    | some q =>
      obtain ⟨id, off⟩ := q
      simp only [getCells]
      cases ho : h[id]? with
      | none => rfl
      | some ob =>
        cases ob with
        | cells vs ro ty => simp only; split <;> simp_all
        | _ => rfl
  | _ => rfl
theorem ld1_p {id off : Nat} {vs : List V} {ro : Bool} {ty : Option Nat} (ho : h[id]? = some (.cells vs ro ty)) : ld1 h (.p (some (id, off))) = (vs[off]?).map (·, h) := by simp only [ld1, ho]
theorem ldA_p {n id off : Nat} {vs : List V} {ro : Bool} {ty : Option Nat} (ho : h[id]? = some (.cells vs ro ty)) : ldA n h (.p (some (id, off))) = if off + n ≤ vs.length then some (.g ((vs.drop off).take n), h) else none := by simp only [ldA, ho]
/-- A store of some cells. -/
def stN (n : Nat) (h : Heap) (x : V) (us : List V) : Option (V × Heap) :=
  match x with
  | .p (some (id, off)) =>
    match h[id]? with
    | some (.cells vs false ty) => if us.length = n ∧ us.all V.one = true ∧ off + n ≤ vs.length then some (un, h.set id (.cells (splice vs off us) false ty)) else none
    | _ => none
  | _ => none
theorem op_store (n : Nat) (a x : Opd) : opS (.store n a x) fr h = stN n h (ev fr a) (ev fr x).cells := by
  simp only [opS, stN]
  generalize ev fr a = z
  cases z with
  | p a =>
    cases a with
    | none => rfl
    | some q =>
      obtain ⟨id, off⟩ := q
      simp only [setCells]
      cases ho : h[id]? with
      | none => simp
      | some ob =>
        cases ob with
        | cells vs ro ty =>
          cases ro with
          | true => simp
          | false =>
            simp only
            by_cases h1 : (ev fr x).cells.length = n ∧ (ev fr x).cells.all V.one = true
            · rw [if_pos h1]
              obtain ⟨h2, h3⟩ := h1
              subst h2
              by_cases h4 : off + (ev fr x).cells.length ≤ vs.length
              · rw [if_pos h4, if_pos ⟨rfl, h3, h4⟩]; rfl
              · rw [if_neg h4, if_neg (fun c => h4 c.2.2)]; rfl
            · rw [if_neg h1, if_neg (fun c => h1 ⟨c.1, c.2.1⟩)]
        | _ => simp
  | _ => rfl
theorem splice_one (vs : List V) (off : Nat) (v : V) (hl : off < vs.length) : splice vs off [v] = vs.set off v := by
  apply List.ext_getElem?
  intro j
  simp only [splice, List.getElem?_set]
  by_cases h1 : j < off
  · rw [List.append_assoc, List.getElem?_append_left (by simp; omega)]
    simp [List.getElem?_take, h1, show ¬ off = j by omega]
  · by_cases h2 : off = j
    · subst h2
      rw [List.append_assoc, List.getElem?_append_right (by rw [List.length_take]; omega)]
      simp [List.length_take, Nat.min_eq_left (Nat.le_of_lt hl), hl, Nat.min_le_left]
    · rw [List.getElem?_append_right (by simp; omega)]
      simp [List.getElem?_drop, h2, Nat.min_eq_left (Nat.le_of_lt hl)]
      congr 1; omega
theorem splice_all (vs us : List V) (hl : us.length = vs.length) : splice vs 0 us = us := by
  simp [splice, hl]
theorem stN_one {id off : Nat} {vs : List V} {ty : Option Nat} {v : V} (ho : h[id]? = some (.cells vs false ty)) (h1 : v.one = true) (hl : off < vs.length) : stN 1 h (.p (some (id, off))) [v] = some (un, h.set id (.cells (vs.set off v) false ty)) := by
  simp only [stN, ho]
  rw [if_pos ⟨rfl, by simp [h1], by omega⟩, splice_one _ _ _ hl]
theorem stN_all {n id : Nat} {vs us : List V} {ty : Option Nat} (ho : h[id]? = some (.cells vs false ty)) (hu : us.length = n) (h1 : us.all V.one = true) (hl : vs.length = n) : stN n h (.p (some (id, 0))) us = some (un, h.set id (.cells us false ty)) := by
  simp only [stN, ho]
  rw [if_pos ⟨hu, h1, by omega⟩, splice_all _ _ (by omega)]
theorem stN_p {n id off : Nat} {vs us : List V} {ty : Option Nat} (ho : h[id]? = some (.cells vs false ty)) (hu : us.length = n) (h1 : us.all V.one = true) (hl : off + n ≤ vs.length) : stN n h (.p (some (id, off))) us = some (un, h.set id (.cells (splice vs off us) false ty)) := by
  simp only [stN, ho]
  rw [if_pos ⟨hu, h1, hl⟩]

/-! ### Strings, slices -/
def sS (x : V) (lo hi : Option Nat) (h : Heap) : Option (V × Heap) :=
  match x with
  | .s l => match lo, hi with | some a, some b => if a ≤ b ∧ b ≤ l.length then some (.s ((l.take b).drop a), h) else none | _, _ => none
  | _ => none
def len' : V → Nat | .s l => l.length | _ => 0
theorem op_sliceS (x : Opd) (lo hi : Option Opd) : opS (.sliceS x lo hi) fr h = sS (ev fr x) (bound fr lo 0) (bound fr hi (len' (ev fr x))) h := by
  simp only [opS, sS]
  generalize ev fr x = z
  cases z <;> rfl
theorem sS_s (l : List UInt8) (a b : Nat) : sS (.s l) (some a) (some b) h = if a ≤ b ∧ b ≤ l.length then some (.s ((l.take b).drop a), h) else none := rfl
def slL (sz : Nat) (x : V) (lo hi mx : Option Nat) (hs : Bool) (ms : Bool) (h : Heap) : Option (V × Heap) :=
  match x with
  | .sl a len cap z =>
    match lo, hi, mx with
    | some l, some u, some m =>
      if l ≤ u ∧ u ≤ m ∧ m ≤ cap.getD len ∧ (ms → hs) ∧ (a.isSome → z = sz) then
        some (.sl (a.map fun q => (q.1, q.2 + l * sz)) (u - l) (if ms then some (m - l) else cap.map (· - l)) z, h)
      else none
    | _, _, _ => none
  | _ => none
def lenC : V → Nat | .sl _ len _ _ => len | _ => 0
def capC : V → Nat | .sl _ len cap _ => cap.getD len | _ => 0
theorem op_sliceL (sz : Nat) (x : Opd) (lo hi mx : Option Opd) : opS (.sliceL sz x lo hi mx) fr h = slL sz (ev fr x) (bound fr lo 0) (bound fr hi (lenC (ev fr x))) (bound fr mx (capC (ev fr x))) hi.isSome mx.isSome h := by
  simp only [opS, slL]
  generalize ev fr x = z
  cases z <;> rfl
def ixS (x : V) (i : Option Nat) (h : Heap) : Option (V × Heap) := match x, i with | .s l, some n => (l[n]?).map fun c => (.i .u8 c.toNat, h) | _, _ => none
theorem op_indexS (x i : Opd) : opS (.indexS x i) fr h = ixS (ev fr x) (natOf (ev fr i)) h := by
  simp only [opS, ixS]
  generalize ev fr x = z
  generalize natOf (ev fr i) = n
  cases z <;> cases n <;> rfl
theorem ixS_s (l : List UInt8) (n : Nat) : ixS (.s l) (some n) h = (l[n]?).map fun c => (.i .u8 c.toNat, h) := rfl
theorem natOf_i (k : IntKind) (n : Int) : natOf (.i k n) = if 0 ≤ n then some n.toNat else none := rfl
theorem bound_none (d : Nat) : bound fr none d = some d := rfl
theorem bound_some (x : Opd) (d : Nat) : bound fr (some x) d = natOf (ev fr x) := rfl
theorem op_len (k : LenK) (x : Opd) : opS (.len k x) fr h = (lenV h k (ev fr x)).map fun (n : Nat) => (.i .i64 (n : Int), h) := rfl
theorem lenV_s (l : List UInt8) : lenV h .str (.s l) = some l.length := rfl
theorem lenV_sl (a : Option (Nat × Nat)) (n : Nat) (c : Option Nat) (z : Nat) : lenV h .slice (.sl a n c z) = some n := rfl
theorem lenV_cap (a : Option (Nat × Nat)) (n : Nat) (c : Option Nat) (z : Nat) : lenV h .cap (.sl a n c z) = c := rfl
def cvBS (x : V) (h : Heap) : Option (V × Heap) := match x with | .sl none _ _ _ => some (.s [], h) | .sl (some (id, off)) n _ _ => ((getCells h id off n).bind bytesOf).map fun l => (.s l, h) | _ => none
theorem op_convBS (x : Opd) : opS (.convBS x) fr h = cvBS (ev fr x) h := rfl
def cvAt (n : Nat) (ob : Option Obj) (off : Nat) (h : Heap) : Option (V × Heap) := match ob with | some (.cells vs _ _) => if off + n ≤ vs.length then (bytesOf ((vs.drop off).take n)).map fun l => (.s l, h) else none | _ => none
theorem cvBS_sl (id off n : Nat) (c : Option Nat) (z : Nat) : cvBS (.sl (some (id, off)) n c z) h = cvAt n (h[id]?) off h := by
  simp only [cvBS, cvAt, getCells]
  cases h[id]? with
  | none => rfl
  | some ob =>
    cases ob with
    | cells vs ro ty => simp only; split <;> rfl
    | _ => rfl
theorem cvBS_nil (n : Nat) (c : Option Nat) (z : Nat) : cvBS (.sl none n c z) h = some (.s [], h) := rfl
theorem cvAt_c (n : Nat) (vs : List V) (ro : Bool) (ty : Option Nat) (off : Nat) : cvAt n (some (.cells vs ro ty)) off h = if off + n ≤ vs.length then (bytesOf ((vs.drop off).take n)).map fun l => (.s l, h) else none := rfl
theorem op_convSB (x : Opd) (l : List UInt8) (hx : ev fr x = .s l) : opS (.convSB x) fr h = if l.length ≤ 35184372088832 then some (.sl (some (h.length, 0)) l.length none 1, h ++ [.cells (bytesV l) false none]) else none := by
  simp only [opS, allocS, hx]; split <;> rfl
theorem op_extract (x : Opd) (i : Nat) : opS (.extract x i) fr h = match ev fr x with | .t l => (l[i]?).map (·, h) | _ => none := rfl
def iaL (sz : Nat) (x : V) (i : Option Nat) (h : Heap) : Option (V × Heap) :=
  match x, i with | .sl (some (id, off)) len _ z, some n => if n < len ∧ z = sz then some (.p (some (id, off + n * sz)), h) else none | _, _ => none
theorem op_iaddrL (sz : Nat) (x i : Opd) : opS (.iaddrL sz x i) fr h = iaL sz (ev fr x) (natOf (ev fr i)) h := by
  simp only [opS, iaL]
  rfl
theorem iaL_sl (sz id off len n : Nat) (c : Option Nat) (hn : n < len) : iaL sz (.sl (some (id, off)) len c sz) (some n) h = some (.p (some (id, off + n * sz)), h) := by simp [iaL, hn]
def iaA (len sz : Nat) (x : V) (i : Option Nat) (h : Heap) : Option (V × Heap) :=
  match x, i with | .p (some (id, off)), some n => if n < len then some (.p (some (id, off + n * sz)), h) else none | _, _ => none
theorem op_iaddrA (len sz : Nat) (x i : Opd) : opS (.iaddrA len sz x i) fr h = iaA len sz (ev fr x) (natOf (ev fr i)) h := by
  simp only [opS, iaA]
  rfl
theorem iaA_p (len sz id off n : Nat) (hn : n < len) : iaA len sz (.p (some (id, off))) (some n) h = some (.p (some (id, off + n * sz)), h) := by simp [iaA, hn]
def ixA (len sz : Nat) (agg : Bool) (x : V) (i : Option Nat) (h : Heap) : Option (V × Heap) :=
  match x, i with | .g cs, some n => if n < len then (partS agg cs (n * sz) sz).map (·, h) else none | _, _ => none
theorem op_indexA (len sz : Nat) (agg : Bool) (x i : Opd) : opS (.indexA len sz agg x i) fr h = ixA len sz agg (ev fr x) (natOf (ev fr i)) h := by
  simp only [opS, ixA]
  rfl
theorem ixA_g (len sz n : Nat) (agg : Bool) (cs : List V) (hn : n < len) : ixA len sz agg (.g cs) (some n) h = (partS agg cs (n * sz) sz).map (·, h) := by simp [ixA, hn]
theorem op_appendT (e : Nat) (str : Bool) (sz bytes : Nat) (x y : Opd) : opS (.appendT e str sz bytes x y) fr h = appendG (some e) h str sz bytes (ev fr x) (ev fr y) := rfl
theorem op_append (str : Bool) (sz bytes : Nat) (x y : Opd) : opS (.append str sz bytes x y) fr h = appendS h str sz bytes (ev fr x) (ev fr y) := rfl
theorem op_range (x : Opd) : opS (.range x) fr h = match ev fr x with | .s l => some (.p (some (h.length, 0)), h ++ [.str l 0]) | _ => none := by
  simp only [opS, allocS]
  generalize ev fr x = z
  cases z <;> rfl
def nx (h : Heap) (x : V) : Option (V × Heap) :=
  match x with
  | .p (some (id, 0)) =>
    match h[id]? with
    | some (.str l pos) =>
      if pos < l.length then some (.t [.b true, .i .i64 pos, .i .i32 (Utf8.decode ⟨l.toArray⟩ pos).1], h.set id (.str l (pos + (Utf8.decode ⟨l.toArray⟩ pos).2)))
      else some (.t [.b false], h)
    | _ => none
  | _ => none
theorem op_next (x : Opd) : opS (.next x) fr h = nx h (ev fr x) := rfl
theorem op_mxmn (mx : Bool) (xs : List Opd) : opS (.mxmn mx xs) fr h = match xs.map (ev fr) with | .i k x :: r => (intsMax mx k x r).map (·, h) | _ => none := rfl
theorem op_build (z : List V) (parts : List (Nat × Nat × Opd)) : opS (.build z parts) fr h = (fillS z (parts.map fun q => (q.1, q.2.1, ev fr q.2.2))).map fun cs => (.g cs, h) := rfl
theorem op_bslice (sz : Nat) (z : List V) (len : Nat) (parts : List (Nat × Opd)) : opS (.bslice sz z len parts) fr h =
    if len * sz ≤ 16777216 then
      match fillS (reps z len) (parts.map fun q => (q.1 * sz, sz, ev fr q.2)) with
      | some cs => if cs.all V.one = true then some (.sl (some (h.length, 0)) len (some len) sz, h ++ [.cells cs false none]) else none
      | none => none
    else none := by
  simp only [opS, allocS]
  split
  · cases hf : fillS (reps z len) (parts.map fun q => (q.1 * sz, sz, ev fr q.2)) with
    | none => rfl
    | some cs => simp only [Option.bind_some]; split <;> rfl
  · rfl

theorem op_eqG (neg : Bool) (ks : List KeyK) (x y : Opd) : opS (.eqG neg ks x y) fr h = (eqGV ks (ev fr x) (ev fr y)).map fun r => (.b (if neg = true then !r else r), h) := by
  simp only [opS]
theorem eqGV_g (ks : List KeyK) (l r : List V) : eqGV ks (.g l) (.g r) = eqCells ks l r := rfl
def mkSl (sz bytes : Nat) (z : List V) (a b : V) (h : Heap) : Option (V × Heap) :=
  match a, b with
  | .i _ l, .i _ c => if 0 ≤ l ∧ l ≤ c ∧ c ≤ 16777216 ∧ (bytes : Int) * c ≤ 35184372088832 then some (.sl (some (h.length, 0)) l.toNat (some c.toNat) sz, h ++ [.cells (reps z c.toNat) false none]) else none
  | _, _ => none
theorem op_mkslice (sz bytes : Nat) (z : List V) (x y : Opd) : opS (.mkslice sz bytes z x y) fr h = mkSl sz bytes z (ev fr x) (ev fr y) h := by
  simp only [opS, allocS, mkSl]
  generalize ev fr x = a
  generalize ev fr y = b
  cases a <;> try rfl
  cases b <;> try rfl
  simp only
  split <;> rfl
theorem mkSl_i (sz bytes : Nat) (z : List V) (k k' : IntKind) (l c : Int) : mkSl sz bytes z (.i k l) (.i k' c) h = if 0 ≤ l ∧ l ≤ c ∧ c ≤ 16777216 ∧ (bytes : Int) * c ≤ 35184372088832 then some (.sl (some (h.length, 0)) l.toNat (some c.toNat) sz, h ++ [.cells (reps z c.toNat) false none]) else none := rfl
def cpL (sz : Nat) (a b : V) (h : Heap) : Option (V × Heap) :=
  match a, b with
  | .sl a dl _ z, .sl b sl _ z' =>
    if min sl dl = 0 then some (.i .i64 0, h) else
    match a, b with
    | some (id, off), some (id', off') =>
      if z = sz ∧ z' = sz then
        match getCells h id' off' (min sl dl * sz) with
        | some cs => if cs.all V.one then (setCells h id off cs).map (.i .i64 (min sl dl : Nat), ·) else none
        | none => none
      else none
    | _, _ => none
  | _, _ => none
theorem op_copyL (sz : Nat) (x y : Opd) : opS (.copyL sz x y) fr h = cpL sz (ev fr x) (ev fr y) h := rfl
attribute [go_sem] op_mkslice mkSl_i op_copyL
def eqC1 (c : Bool) (r : Option Bool) : Option Bool := if c = true then r else some false
theorem eqCells_nil : eqCells [] [] [] = some true := rfl
theorem eqCells_i (ks : List KeyK) (k : IntKind) (a b : Int) (l r : List V) : eqCells (.int :: ks) (.i k a :: l) (.i k b :: r) = eqC1 (decide (a = b)) (eqCells ks l r) := by
  by_cases e : a = b
  · subst e; simp [eqCells, keyFit, keyEq, eqC1]
  · have e' : (a == b) = false := by simpa using e
    simp only [eqCells, keyFit, keyEq, e', if_true, Bool.and_self, eqC1, e, decide_false]; rfl
theorem eqCells_s (ks : List KeyK) (a b : List UInt8) (l r : List V) : eqCells (.str :: ks) (.s a :: l) (.s b :: r) = eqC1 (decide (a = b)) (eqCells ks l r) := by
  by_cases e : a = b
  · subst e; simp [eqCells, keyFit, keyEq, eqC1]
  · have e' : (a == b) = false := by simpa using e
    simp only [eqCells, keyFit, keyEq, e', if_true, Bool.and_self, eqC1, e, decide_false]; rfl
theorem eqCells_b (ks : List KeyK) (a b : Bool) (l r : List V) : eqCells (.bool :: ks) (.b a :: l) (.b b :: r) = eqC1 (decide (a = b)) (eqCells ks l r) := by
  by_cases e : a = b
  · subst e; simp [eqCells, keyFit, keyEq, eqC1]
  · have e' : (a == b) = false := by simpa using e
    simp only [eqCells, keyFit, keyEq, e', if_true, Bool.and_self, eqC1, e, decide_false]; rfl
theorem eqC1_some (c d : Bool) : eqC1 c (some d) = some (c && d) := by cases c <;> rfl
attribute [go_sem high] Un_draw0
attribute [go_sem] op_eqG eqGV_g eqCells_nil eqCells_i eqCells_s eqCells_b eqC1_some
/-! ### .. by what lies at the object's number -/
def ldAt (ob : Option Obj) (off : Nat) (h : Heap) : Option (V × Heap) := match ob with | some (.cells vs _ _) => (vs[off]?).map (·, h) | _ => none
def ldAtA (n : Nat) (ob : Option Obj) (off : Nat) (h : Heap) : Option (V × Heap) := match ob with | some (.cells vs _ _) => if off + n ≤ vs.length then some (.g ((vs.drop off).take n), h) else none | _ => none
theorem ld1_at (id off : Nat) : ld1 h (.p (some (id, off))) = ldAt (h[id]?) off h := rfl
theorem ldA_at (n id off : Nat) : ldA n h (.p (some (id, off))) = ldAtA n (h[id]?) off h := rfl
theorem ldAt_c (vs : List V) (ro : Bool) (ty : Option Nat) (off : Nat) : ldAt (some (.cells vs ro ty)) off h = (vs[off]?).map (·, h) := rfl
theorem ldAtA_c (n : Nat) (vs : List V) (ro : Bool) (ty : Option Nat) (off : Nat) : ldAtA n (some (.cells vs ro ty)) off h = if off + n ≤ vs.length then some (.g ((vs.drop off).take n), h) else none := rfl
def stAt (n : Nat) (ob : Option Obj) (id off : Nat) (us : List V) (h : Heap) : Option (V × Heap) :=
  match ob with
  | some (.cells vs false ty) => if us.length = n ∧ us.all V.one = true ∧ off + n ≤ vs.length then some (un, h.set id (.cells (splice vs off us) false ty)) else none
  | _ => none
theorem stN_at (n id off : Nat) (us : List V) : stN n h (.p (some (id, off))) us = stAt n (h[id]?) id off us h := rfl
theorem stAt_c (n : Nat) (vs : List V) (ty : Option Nat) (id off : Nat) (us : List V) : stAt n (some (.cells vs false ty)) id off us h = if us.length = n ∧ us.all V.one = true ∧ off + n ≤ vs.length then some (un, h.set id (.cells (splice vs off us) false ty)) else none := rfl
theorem stAt_1 (vs : List V) (ty : Option Nat) (id off : Nat) (v : V) : stAt 1 (some (.cells vs false ty)) id off [v] h = if v.one = true ∧ off < vs.length then some (un, h.set id (.cells (vs.set off v) false ty)) else none := by
  rw [stAt_c]
  by_cases hc : v.one = true ∧ off < vs.length
  · rw [if_pos hc, if_pos ⟨rfl, by simp [hc.1], by omega⟩, splice_one _ _ _ hc.2]
  · rw [if_neg hc, if_neg (fun c => hc ⟨by simpa using c.2.1, by omega⟩)]
def nxAt (ob : Option Obj) (id : Nat) (h : Heap) : Option (V × Heap) :=
  match ob with
  | some (.str l pos) =>
      if pos < l.length then some (.t [.b true, .i .i64 pos, .i .i32 (Utf8.decode ⟨l.toArray⟩ pos).1], h.set id (.str l (pos + (Utf8.decode ⟨l.toArray⟩ pos).2)))
      else some (.t [.b false], h)
  | _ => none
theorem nx_at (id : Nat) : nx h (.p (some (id, 0))) = nxAt (h[id]?) id h := rfl
theorem nxAt_s (l : List UInt8) (pos id : Nat) : nxAt (some (.str l pos)) id h = if pos < l.length then some (.t [.b true, .i .i64 pos, .i .i32 (Utf8.decode ⟨l.toArray⟩ pos).1], h.set id (.str l (pos + (Utf8.decode ⟨l.toArray⟩ pos).2))) else some (.t [.b false], h) := rfl

theorem resOne_tm (t : Nat) : resOne fr h (.tm t) = some (fr.getD t un) := rfl
theorem resOne_1 (t : Nat) : resOne fr h (.cell t false 1) = (ld1 h (fr.getD t un)).map (·.1) := by
  have := op_load1 (fr := fr) (h := h) (.tm t)
  simp only [opS, ev] at this
  rw [← this]
  simp only [resOne]
  generalize fr.getD t un = z
  cases z with
  | p a =>
    cases a with
    | none => rfl
    | some q =>
      obtain ⟨id, off⟩ := q
      simp only
      cases getCells h id off 1 with
      | none => rfl
      | some cs => simp only; cases cs[0]? <;> rfl
  | _ => rfl
theorem resOne_A (t n : Nat) : resOne fr h (.cell t true n) = (ldA n h (fr.getD t un)).map (·.1) := by
  have := op_loadA (fr := fr) (h := h) n (.tm t)
  simp only [opS, ev] at this
  rw [← this]
  simp only [resOne]
  generalize fr.getD t un = z
  cases z with
  | p a =>
    cases a with
    | none => rfl
    | some q =>
      obtain ⟨id, off⟩ := q
      simp only
      cases getCells h id off n with
      | none => rfl
      | some cs => rfl
  | _ => rfl
theorem resV_1 (r : RV) : resV fr h [r] = resOne fr h r := by
  simp only [resV, resAll]
  cases resOne fr h r <;> rfl
theorem resV_0 : resV fr h [] = some un := rfl
theorem resV_2 (r r2 : RV) (rs : List RV) : resV fr h (r :: r2 :: rs) = (resAll fr h (r :: r2 :: rs)).map .t := by
  simp only [resV]
  cases he : resAll fr h (r :: r2 :: rs) with
  | none => rfl
  | some vs =>
    simp only [resAll] at he
    cases h1 : resOne fr h r with
    | none => rw [h1] at he; cases he
    | some a =>
      cases h2 : resOne fr h r2 with
      | none => rw [h1, h2] at he; cases he
      | some b =>
        cases h3 : resAll fr h rs with
        | none => rw [h1, h2, h3] at he; cases he
        | some l => rw [h1, h2, h3] at he; injection he with he; subst he; rfl

/-! ### Objects of a heap that has grown -/
theorem get_old {i : Nat} (l : List Obj) (hs : (h[i]?).isSome = true) : (h ++ l)[i]? = h[i]? := by
  rw [List.getElem?_append_left]
  cases hh : h[i]? with
  | none => rw [hh] at hs; cases hs
  | some o => exact (List.getElem?_eq_some_iff.1 hh).1
theorem get_new (l : List Obj) (k : Nat) : (h ++ l)[h.length + k]? = l[k]? := by
  rw [List.getElem?_append_right (by omega)]; congr 1; omega
theorem get_new0 (l : List Obj) : (h ++ l)[h.length]? = l[0]? := by
  rw [List.getElem?_append_right (by omega)]; congr 1; omega
theorem set_new (l : List Obj) (k : Nat) (o : Obj) : (h ++ l).set (h.length + k) o = h ++ l.set k o := by
  rw [List.set_append_right _ _ (by omega)]; congr 2; omega
theorem set_new0 (l : List Obj) (o : Obj) : (h ++ l).set h.length o = h ++ l.set 0 o := by
  rw [List.set_append_right _ _ (by omega)]; congr 2; omega
theorem len_app1 (o : Obj) : (h ++ [o]).length = h.length + 1 := by simp
theorem len_app2 (o o2 : Obj) : (h ++ [o, o2]).length = h.length + 2 := by simp
theorem len_app (l : List Obj) : (h ++ l).length = h.length + l.length := List.length_append
end

attribute [go_sem] op_mv op_box op_alloc op_mkmap op_un op_pick pk_t pk_f op_bin bn_add bn_sub bn_mul bn_quo bn_rem bn_and bn_or bn_xor bn_eql bn_neq bn_lss bn_leq bn_gtr bn_geq bn_shl bn_shr bn_s_eql bn_s_neq bn_s_add un_not op_eq op_convI cvI_i op_convS cvS_s op_nilck nl_p nl_f op_mkfn op_mkif op_faddr fa_p op_field fd_one fd_agg
attribute [go_sem] op_load1 op_loadA op_store op_sliceS sS_s op_indexS ixS_s natOf_i bound_none bound_some op_sliceL slL lenC capC op_convBS cvBS_sl cvBS_nil cvAt_c bytesOf op_len lenV_s lenV_sl lenV_cap op_extract op_iaddrL iaL_sl op_iaddrA iaA_p op_indexA ixA_g op_append op_appendT op_range op_next op_mxmn op_build op_bslice len'
attribute [go_sem high] stAt_1
attribute [go_sem] resV_0 resOne_tm resOne_1 resOne_A resV_1 resV_2 ld1_at ldA_at ldAt_c ldAtA_c stN_at stAt_c nx_at nxAt_s splice get_old get_new get_new0 set_new set_new0 len_app

end Am
end Go.Proofs.YtcndgnddipbbgaaGreat
