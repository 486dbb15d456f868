/-
  THE ABSTRACT MACHINE, part 4: operations that leave memory alone do what the machine says.
  Conditions: none (lemmas over any program).
-/
import Derived.Test.YtcndgnddipbbgaaGreatAm3
import Derived.Laws.StructEq
import Derived.ChangeKeysEq
set_option linter.unusedVariables false
set_option linter.unusedSimpArgs false
namespace Go.Proofs.YtcndgnddipbbgaaGreat
namespace Am
open Go.RowKit

def GlOk (σ : Sg) (G : Nat → Option Nat) : Prop := ∀ g id, G g = some id → ∃ l, σ id = some l ∧ l.b = g ∧ l.o = 0
theorem GlOk.mono {σ σ' : Sg} {G : Nat → Option Nat} (h : GlOk σ G) (hle : Le σ σ') : GlOk σ' G := fun g id e => by
  obtain ⟨l, a, b⟩ := h g id e
  exact ⟨l, hle _ _ a, b⟩

def FRo (σ : Sg) (fr : List V) (tmps : Array Value) (xs : List Opd) : Prop := ∀ t, Opd.tm t ∈ xs → VR σ (fr.getD t un) (tmps.getD t undef)
theorem FRo.sub {σ : Sg} {fr : List V} {tmps : Array Value} {xs ys : List Opd} (h : FRo σ fr tmps xs) (hs : ∀ y ∈ ys, y ∈ xs) : FRo σ fr tmps ys := fun t ht => h t (hs _ ht)

section
variable {P : Program} {G : Nat → Option Nat} {σ : Sg} {B : Nat} {w0 w : World} {h : Heap} {a : Act} {fr : List V}

theorem ev_sound (hG : GlOk σ G) {x : Operand} {y : Opd} (ht : trO G x = some y) (hf : FRo σ fr a.tmps [y]) : VR σ (ev fr y) (a.eval x) := by
  cases x with
  | tmp t => simp [trO] at ht; subst ht; exact hf t (by simp)
  | const v =>
    simp only [trO] at ht
    cases hv : ofVal v with
    | none => simp [hv] at ht
    | some c => simp [hv] at ht; subst ht; exact ofVal_sound σ hv
  | func f => simp [trO] at ht; subst ht; exact VR.f f .nil
  | global g =>
    simp only [trO] at ht
    cases hv : G g with
    | none => simp [hv] at ht
    | some id =>
      simp [hv] at ht
      subst ht
      obtain ⟨l, h1, h2, h3⟩ := hG g id hv
      have := VR.p (σ := σ) (off := 0) h1
      simpa [h2, h3, ev, Act.eval] using this

theorem evs_sound (hG : GlOk σ G) {xs : List Operand} : ∀ {ys : List Opd}, trOs G xs = some ys → FRo σ fr a.tmps ys → VRs σ (ys.map (ev fr)) (xs.map a.eval) := by
  induction xs with
  | nil => intro ys ht _; simp [trOs] at ht; subst ht; exact .nil
  | cons x xs ih =>
    intro ys ht hf
    simp only [trOs] at ht
    split at ht
    · rename_i y ys' hy hys
      injection ht with ht; subst ht
      exact .cons (ev_sound hG hy (hf.sub (by simp))) (ih hys (hf.sub (by simp; intro y hy; exact Or.inr hy)))
    · cases ht

/-- The operation's run, where it comes to a value. -/
theorem run_v {s : Sem Value} {u : Value} {w w' : World} (h : s.run P w = .ok u w') : (do pure (Next.value (← s)) : Sem Next).run P w = .ok (.value u) w' := by
  simp [h]
theorem run_u {s : Sem Unit} {w w' : World} (h : s.run P w = .ok () w') : (do s; pure Next.skip : Sem Next).run P w = .ok .skip w' := by
  simp [h]

theorem szT_some {t : TypeId} {n : Nat} (hs : szT P t = some n) : ∃ i, P.info? t = some i ∧ i.size = n := by
  unfold szT at hs
  cases hi : P.info? t with
  | none => simp [hi] at hs
  | some i => simp [hi] at hs; exact ⟨i, rfl, hs⟩
theorem run_szT {t : TypeId} {n : Nat} (hs : szT P t = some n) (w : World) : (sizeOf t).run P w = .ok n w := by
  obtain ⟨i, hi, rfl⟩ := szT_some hs
  simp [sizeOf, typeInfo, hi]
theorem run_aggT {t : TypeId} {b : Bool} (hs : aggT P t = some b) (w : World) : (isAgg t).run P w = .ok b w := by
  unfold aggT at hs
  cases hu : P.underlying t with
  | none => simp [hu] at hs
  | some d =>
    rw [hu] at hs
    cases d <;> simp at hs <;> subst hs <;> simp [isAgg, run_underlying hu]

theorem run_part {t : TypeId} {agg : Bool} {sz off : Nat} (hs : szT P t = some sz) (ha : aggT P t = some agg) {cs : List V} {us : List Value} (hr : VRs σ cs us) {v : V}
    (hp : partS agg cs off sz = some v) (w : World) : ∃ u, (part t us.toArray off).run P w = .ok u w ∧ VR σ v u := by
  unfold partS at hp
  cases agg with
  | true =>
    simp only [if_true] at hp
    split at hp
    · rename_i hle
      injection hp with hp; subst hp
      refine ⟨.agg ((us.drop off).take sz).toArray, ?_, .g ((hr.drop off).take sz)⟩
      simp only [part, Sem.run_bind, run_aggT ha, Result.andThen_ok, if_true, run_szT hs, Sem.run_pure]
      rw [List.extract_toArray, List.extract_eq_take_drop, show off + sz - off = sz by omega]
    · cases hp
  | false =>
    simp at hp
    obtain ⟨u, hu, hv⟩ := hr.get hp
    refine ⟨u, ?_, hv⟩
    simp [part, run_aggT ha, hu]

def Q1 (P : Program) (o : Oper) (a : Act) (w : World) (σ : Sg) (v : V) : Prop := ∃ u, (execOp a.eval o).run P w = .ok (.value u) w ∧ VR σ v u

theorem q_of {o : Oper} {v : V} {s : Sem Value} (hx : execOp a.eval o = (do pure (Next.value (← s)))) (h : ∃ u, s.run P w = .ok u w ∧ VR σ v u) : Q1 P o a w σ v := by
  obtain ⟨u, h1, h2⟩ := h
  exact ⟨u, by rw [hx]; exact run_v h1, h2⟩

theorem q_move (hG : GlOk σ G) {o : Oper} {x : Operand} (ho : o.op = .move x ∨ o.op = .assign x) {y : Opd} (ht : trO G x = some y) (hf : FRo σ fr a.tmps [y]) : Q1 P o a w σ (ev fr y) := by
  refine ⟨a.eval x, ?_, ev_sound hG ht hf⟩
  rcases ho with ho | ho <;> simp [execOp, ho]

theorem q_pick (hG : GlOk σ G) {o : Oper} {c x y : Operand} (ho : o.op = .pick c x y) {c' x' y' : Opd} (h1 : trO G c = some c') (h2 : trO G x = some x') (h3 : trO G y = some y')
    (hf : FRo σ fr a.tmps [c', x', y']) {b : Bool} (hb : ev fr c' = .b b) : Q1 P o a w σ (if b then ev fr x' else ev fr y') := by
  have hc := ev_sound hG h1 (hf.sub (by simp))
  rw [hb] at hc
  cases hc' : a.eval c <;> rw [hc'] at hc <;> cases hc
  refine ⟨if b then a.eval x else a.eval y, by simp [execOp, ho, hc', asBool], ?_⟩
  cases b
  · exact ev_sound hG h3 (hf.sub (by simp))
  · exact ev_sound hG h2 (hf.sub (by simp))

theorem loadAt_run (H : HR σ B w0 h w) {t : TypeId} {agg : Bool} {n : Nat} (ha : aggT P t = some agg) (hn : szT P t = some n) (h1 : agg ∨ n = 1) {id off : Nat} {u : Value} (hu : VR σ (.p (some (id, off))) u)
    {cs : List V} (hg : getCells h id off n = some cs) {v : V} (hv : (if agg then some (V.g cs) else cs[0]?) = some v) : ∃ x, (Instr.loadAt t u).run P w = .ok x w ∧ VR σ v x := by
  cases hu with
  | p hl =>
    obtain ⟨hlen, us, hr, hul, ho, hc⟩ := H.read hg hl
    rename_i l
    cases agg with
    | true =>
      simp at hv
      subst hv
      refine ⟨.agg us.toArray, ?_, .g hr⟩
      simp only [Instr.loadAt, Instr.sureAddr, Sem.run_bind, Sem.run_pure, Result.andThen_ok, loadVar, run_aggT ha, if_true, run_szT hn]
      rw [← hul, run_loadCells_list]
      · simp
      · intro j v hv
        rw [add0]
        exact hc j v hv
    | false =>
      simp at h1 hv
      subst h1
      obtain ⟨x, hx, hvx⟩ := hr.get hv
      refine ⟨x, ?_, hvx⟩
      have := hc 0 x hx
      simp only [Nat.add_zero] at this
      simp [Instr.loadAt, Instr.sureAddr, loadVar, run_aggT ha, this]

theorem q_load (hG : GlOk σ G) (H : HR σ B w0 h w) {o : Oper} {t : TypeId} {x : Operand} (ho : o.op = .load t x) {ao : AOp} (ht : trOp P G (.load t x) = some ao) (hf : FRo σ fr a.tmps ao.opds)
    {v : V} {h' : Heap} (hs : opS ao fr h = some (v, h')) : h' = h ∧ Q1 P o a w σ v := by
  simp only [trOp] at ht
  split at ht
  · rename_i agg n y ha hn hy
    split at ht
    · rename_i h1
      injection ht with ht; subst ht
      have hx := ev_sound hG hy hf
      simp only [opS] at hs
      split at hs
      · rename_i id off he
        rw [he] at hx
        split at hs
        · rename_i cs hg
          have key : h' = h ∧ (if agg then some (V.g cs) else cs[0]?) = some v := by
            split at hs
            · rename_i hagg; simp at hs; simp [hagg, hs]
            · rename_i hagg
              cases h0 : cs[0]? with
              | none => simp [h0] at hs
              | some c => simp [h0] at hs; simp [hagg, hs]
          exact ⟨key.1, q_of (by simp [execOp, ho]) (loadAt_run H ha hn h1 hx hg key.2)⟩
        · cases hs
      · cases hs
    · cases ht
  · cases ht

theorem q_nilck (hG : GlOk σ G) {o : Oper} {x : Operand} (ho : o.op = .nilCheck x) {y : Opd} (ht : trO G x = some y) (hf : FRo σ fr a.tmps [y])
    {v : V} {h' : Heap} (hs : opS (.nilck y) fr h = some (v, h')) : h' = h ∧ Q1 P o a w σ v := by
  have hx := ev_sound hG ht hf
  simp only [opS] at hs
  generalize hv : ev fr y = z at hs hx
  generalize hu : a.eval x = u at hx
  have hx' := hx
  cases hx <;> simp at hs <;> obtain ⟨rfl, rfl⟩ := hs <;> exact ⟨rfl, _, by simp [execOp, ho, hu], hx'⟩

/-! numbers, strings, tests -/
theorem run_binI {op : BinOp} {k : IntKind} {x y : Int} {v : V} (hv : binI op k x y = some v) (xT : TypeId) (w : World) :
    ∃ u, (binOp op xT (.int k x) (.int k y)).run P w = .ok u w ∧ VR σ v u := by
  cases op
  case quo =>
    by_cases hy : y = 0
    · simp [binI, hy] at hv
    · simp [binI, hy] at hv; subst hv; exact ⟨_, by simp [binOp, Op.intDiv, hy], .i _ _⟩
  case rem =>
    by_cases hy : y = 0
    · simp [binI, hy] at hv
    · simp [binI, hy] at hv; subst hv; exact ⟨_, by simp [binOp, Op.intDiv, hy], .i _ _⟩
  all_goals (simp only [binI, Option.some.injEq, reduceCtorEq] at hv)
  all_goals subst hv
  all_goals first
    | (refine ⟨_, ?_, .i _ _⟩; simp [binOp, Op.intArith, Op.intBits, Op.intCmp]; done)
    | (refine ⟨_, ?_, .b _⟩; simp [binOp, Op.intArith, Op.intBits, Op.intCmp]; done)

theorem run_shiftI {op : BinOp} {k k' : IntKind} {x y : Int} {v : V} (hop : op = .shl ∨ op = .shr) (hv : shiftI op k x y = some v) (xT : TypeId) (w : World) :
    ∃ u, (binOp op xT (.int k x) (.int k' y)).run P w = .ok u w ∧ VR σ v u := by
  unfold shiftI at hv
  split at hv
  · cases hv
  · rename_i hy
    rcases hop with rfl | rfl <;> simp at hv <;> subst hv <;> exact ⟨_, by simp [binOp, Op.shift, hy], .i _ _⟩

theorem mk_append (x y : List UInt8) : (⟨x.toArray⟩ : ByteArray) ++ ⟨y.toArray⟩ = ⟨(x ++ y).toArray⟩ := by
  apply ByteArray.ext
  simp

theorem run_binStr {op : BinOp} {x y : List UInt8} {v : V} (hv : binStr op x y = some v) (xT : TypeId) (w : World) :
    ∃ u, (binOp op xT (.string ⟨x.toArray⟩) (.string ⟨y.toArray⟩)).run P w = .ok u w ∧ VR σ v u := by
  cases op
  case add =>
    simp only [binStr] at hv
    split at hv
    · rename_i hle
      injection hv with hv
      subst hv
      refine ⟨_, ?_, .s _⟩
      have h1 : ¬ (((⟨x.toArray⟩ : ByteArray).size + (⟨y.toArray⟩ : ByteArray).size : Nat) : Int) > IntKind.i64.max := by
        have e1 : (⟨x.toArray⟩ : ByteArray).size = x.length := by simp [ByteArray.size]
        have e2 : (⟨y.toArray⟩ : ByteArray).size = y.length := by simp [ByteArray.size]
        rw [e1, e2]
        have : IntKind.i64.max = 9223372036854775807 := by decide
        rw [this]
        omega
      simp only [binOp, Op.stringOp, if_neg h1, Sem.run_pure, mk_append]
    · cases hv
  all_goals (simp only [binStr, Option.some.injEq, reduceCtorEq] at hv)
  all_goals subst hv
  all_goals (refine ⟨_, ?_, .b _⟩; simp [binOp, Op.stringOp]; done)

theorem run_zV {op : BinOp} {c : Z} {n b : Int} {v : V} (hv : zV op c b = some v) (hc : c.holds n) (xT : TypeId) (w : World) :
    ∃ u, (binOp op xT (.int .i64 n) (.int .i64 b)).run P w = .ok u w ∧ VR σ v u := by
  unfold zV at hv
  split at hv
  · split at hv
    · rename_i e; subst e; injection hv with hv; subst hv; exact run_binI hc xT w
    · cases hv
  · split at hv
    · rename_i e
      subst e
      injection hv with hv
      subst hv
      obtain ⟨q, h1, h2⟩ := hc
      obtain ⟨u, h3, h4⟩ := run_binI (σ := σ) (P := P) h1 xT w
      cases h4 with
      | i _ _ => exact ⟨_, h3, .z _ _ h2⟩
    · cases hv
  · split at hv
    · rename_i e; subst e; injection hv with hv; subst hv; exact run_binI hc xT w
    · cases hv
  · cases hv

theorem run_binV {op : BinOp} {x y v : V} {a b : Value} (hv : binV op x y = some v) (ha : VR σ x a) (hb : VR σ y b) (xT : TypeId) (w : World) :
    ∃ u, (binOp op xT a b).run P w = .ok u w ∧ VR σ v u := by
  cases ha <;> cases hb <;> simp [binV] at hv
  case i.i k n k' n' =>
    split at hv
    · exact run_shiftI (.inl rfl) hv xT w
    · exact run_shiftI (.inr rfl) hv xT w
    · by_cases hk : k = k'
      · subst hk; simp at hv; exact run_binI hv xT w
      · simp [hk] at hv
  case s.s => exact run_binStr hv xT w
  case z.i c n hc k b =>
    cases k <;> simp at hv
    exact run_zV hv hc xT w

theorem ite_same {α : Sort _} {c : Prop} [Decidable c] {x y z : α} (h1 : x = z) (h2 : y = z) : (if c then x else y) = z := by
  split <;> assumption

theorem eqGuard_ok {op : BinOp} {t : TypeId} {x y : Operand} {a b : Value} (h : ∀ c, a ≠ .agg c) (hn : a ≠ .nilIface ∨ b ≠ .nilIface) (w : World) : (eqGuard op t x y a b).run P w = .ok () w := by
  unfold eqGuard
  rw [Sem.run_ite]
  refine ite_same rfl ?_
  cases a <;> first | exact absurd rfl (h _) | (cases b <;> first | rfl | simp at hn)

theorem q_binrun {o : Oper} {op : BinOp} {t yT : TypeId} {x y : Operand} (ho : o.op = .binOp op t x y yT) {u : Value} (hg : (eqGuard op t x y (a.eval x) (a.eval y)).run P w = .ok () w)
    (hu : (binOp op t (a.eval x) (a.eval y)).run P w = .ok u w) {v : V} (hv : VR σ v u) : Q1 P o a w σ v := by
  refine ⟨u, ?_, hv⟩
  simp only [execOp, ho]
  simp [hg, hu]

theorem q_bin (hG : GlOk σ G) {o : Oper} {op : BinOp} {t yT : TypeId} {x y : Operand} (ho : o.op = .binOp op t x y yT) {x' y' : Opd} (h1 : trO G x = some x') (h2 : trO G y = some y')
    (hf : FRo σ fr a.tmps [x', y']) {v : V} (hs : binV op (ev fr x') (ev fr y') = some v) : Q1 P o a w σ v := by
  have hx := ev_sound hG h1 (hf.sub (by simp))
  have hy := ev_sound hG h2 (hf.sub (by simp))
  obtain ⟨u, hu, hv⟩ := run_binV (P := P) hs hx hy t w
  refine q_binrun ho (eqGuard_ok ?_ ?_ w) hu hv
  · intro c e
    rw [e] at hx
    generalize ev fr x' = z at hx hs
    cases hx
    simp [binV] at hs
  · left
    intro e
    rw [e] at hx
    generalize ev fr x' = z at hx hs
    cases hx
    simp [binV] at hs

theorem run_eqlS {s : Sem Value} {e : Sem Bool} {r : Bool} (hs : s = (do pure (.bool (← e)))) (he : e.run P w = .ok r w) : s.run P w = .ok (.bool r) w := by
  rw [hs]; simp [he]
theorem run_neqS {s : Sem Value} {e : Sem Bool} {r : Bool} (hs : s = (do pure (.bool (!(← e))))) (he : e.run P w = .ok r w) : s.run P w = .ok (.bool !r) w := by
  rw [hs]; simp [he]

set_option maxHeartbeats 1000000 in
theorem eqV_eql {k : EqK} {p q : V} {r : Bool} {u u' : Value} (hx : VR σ p u) (hy : VR σ q u') (hs : eqV k p q = some r) (t : TypeId) : binOp .eql t u u' = (do pure (.bool (← Op.equal t u u'))) := by
  cases k <;> cases hx <;> (try (simp [eqV] at hs; done)) <;> cases hy <;> (try (simp [eqV] at hs; done)) <;> rfl
set_option maxHeartbeats 1000000 in
theorem eqV_neq {k : EqK} {p q : V} {r : Bool} {u u' : Value} (hx : VR σ p u) (hy : VR σ q u') (hs : eqV k p q = some r) (t : TypeId) : binOp .neq t u u' = (do pure (.bool (!(← Op.equal t u u')))) := by
  cases k <;> cases hx <;> (try (simp [eqV] at hs; done)) <;> cases hy <;> (try (simp [eqV] at hs; done)) <;> rfl

theorem q_eq (hG : GlOk σ G) {o : Oper} {op : BinOp} {neg : Bool} (hop : op = if neg then .neq else .eql) {t yT : TypeId} {x y : Operand} (ho : o.op = .binOp op t x y yT) {k : EqK} (hk : eqKind P t = some (some k))
    {x' y' : Opd} (h1 : trO G x = some x') (h2 : trO G y = some y') (hf : FRo σ fr a.tmps [x', y']) {r : Bool} (hs : eqV k (ev fr x') (ev fr y') = some r) : Q1 P o a w σ (.b (if neg then !r else r)) := by
  have hx := ev_sound hG h1 (hf.sub (by simp))
  have hy := ev_sound hG h2 (hf.sub (by simp))
  generalize ev fr x' = p at hx hs
  generalize ev fr y' = q at hy hs
  have hg : (eqGuard op t x y (a.eval x) (a.eval y)).run P w = .ok () w := by
    generalize a.eval x = u at hx ⊢
    generalize a.eval y = u' at hy ⊢
    have hni : k ≠ .ifn := by
      rintro rfl
      unfold eqKind at hk
      split at hk <;> simp at hk
    refine eqGuard_ok ?_ ?_ w
    · intro c e; subst e; cases hx; cases k <;> simp [eqV] at hs
    · by_cases e : u = .nilIface
      · subst e
        right
        intro e'
        subst e'
        cases hx; cases hy
        cases k <;> first | exact hni rfl | (simp [eqV] at hs)
      · exact .inl e
  have hr : (binOp op t (a.eval x) (a.eval y)).run P w = .ok (.bool (if neg then !r else r)) w := by
    generalize a.eval x = u at hx ⊢
    generalize a.eval y = u' at hy ⊢
    unfold eqKind at hk
    cases hu : P.underlying t with
    | none => simp [hu] at hk
    | some d =>
      rw [hu] at hk
      have he : (Op.equal t u u').run P w = .ok r w := by
        have hd : ∀ m : Nat, (Op.equalIn (m + 1) t u u').run P w = .ok r w := fun m => by
          cases d <;> simp at hk <;> subst hk <;> cases hx <;> cases hy <;> simp [eqV] at hs <;> subst hs <;> simp [Op.equalIn, run_underlying hu]
        exact hd 9999
      subst hop
      clear hk hg
      cases neg
      · exact run_eqlS (eqV_eql hx hy hs t) he
      · exact run_neqS (eqV_neq hx hy hs t) he
  exact q_binrun ho hg hr (.b _)

theorem q_eqC (hG : GlOk σ G) {o : Oper} {op : BinOp} {neg : Bool} (hop : op = if neg then .neq else .eql) {t yT : TypeId} {x y : Operand} (ho : o.op = .binOp op t x y yT) {k : EqK} (hk : eqKind P t = some (some k))
    {x' y' : Opd} (h1 : trO G x = some x') (h2 : trO G y = some y') (hf : FRo σ fr a.tmps [x', y']) {r : Bool} (hs : eqV (eqC k x y) (ev fr x') (ev fr y') = some r) : Q1 P o a w σ (.b (if neg then !r else r)) := by
  by_cases hc : k = .iface ∧ (isC x || isC y) = true
  · obtain ⟨rfl, hc⟩ := hc
    rw [eqC, if_pos hc] at hs
    by_cases hb : ev fr x' = .ni ∧ ev fr y' = .ni
    · have hx := ev_sound hG h1 (hf.sub (by simp))
      have hy := ev_sound hG h2 (hf.sub (by simp))
      rw [hb.1] at hx
      rw [hb.2] at hy
      rw [hb.1, hb.2] at hs
      have hr : r = true := by simpa [eqV] using hs.symm
      subst hr
      have ex : a.eval x = .nilIface := by generalize a.eval x = u at hx; cases hx; rfl
      have ey : a.eval y = .nilIface := by generalize a.eval y = u at hy; cases hy; rfl
      have hg : (eqGuard op t x y (a.eval x) (a.eval y)).run P w = .ok () w := by
        rw [ex, ey]
        unfold eqGuard
        rw [Sem.run_ite]
        refine ite_same rfl ?_
        simp only
        rw [Sem.run_ite]
        exact (if_pos hc).trans rfl
      have hr : (binOp op t (a.eval x) (a.eval y)).run P w = .ok (.bool (if neg then !true else true)) w := by
        rw [ex, ey]
        unfold eqKind at hk
        cases hu : P.underlying t with
        | none => simp [hu] at hk
        | some d =>
          rw [hu] at hk
          have he : (Op.equal t .nilIface .nilIface).run P w = .ok true w := by
            have hd : ∀ m : Nat, (Op.equalIn (m + 1) t .nilIface .nilIface).run P w = .ok true w := fun m => by
              cases d <;> simp at hk <;> simp [Op.equalIn, run_underlying hu]
            exact hd 9999
          subst hop
          cases neg
          · exact run_eqlS rfl he
          · exact run_neqS rfl he
      exact q_binrun ho hg hr (.b _)
    · refine q_eq hG hop ho hk h1 h2 hf ?_
      generalize ev fr x' = p at hs hb ⊢
      generalize ev fr y' = q at hs hb ⊢
      cases p <;> cases q <;> simp_all [eqV]
  · have e : eqC k x y = k := by
      cases k <;> first | rfl | (simp at hc; simp [eqC, hc])
    rw [e] at hs
    exact q_eq hG hop ho hk h1 h2 hf hs
theorem run_eqFields (d : Nat) {xs ys : List Value} {l r : List V} (hx : VRs σ l xs) (hy : VRs σ r ys) (w : World) :
    ∀ (fs : List Field) (k : Nat) (ks : List KeyK) (b : Bool), flatK P fs k = some ks → eqCells ks (l.drop k) (r.drop k) = some b → (Op.eqFields (d + 1) xs.toArray ys.toArray fs).run P w = .ok b w := by
  intro fs
  induction fs with
  | nil =>
    intro k ks b hk hs
    simp [flatK] at hk
    subst hk
    generalize l.drop k = p at hs
    generalize r.drop k = q at hs
    cases p <;> cases q <;> simp [eqCells] at hs
    subst hs
    simp [Op.eqFields]
  | cons f fs ih =>
    intro k ks b hk hs
    simp only [flatK] at hk
    split at hk
    · rename_i hc
      simp only [Bool.and_eq_true, bne_iff_ne, ne_eq, beq_iff_eq] at hc
      obtain ⟨⟨hn, ho⟩, hz⟩ := hc
      split at hk
      · rename_i kk ks' hkk hks
        injection hk with hk
        subst hk
        by_cases hil : k < l.length
        · rw [List.drop_eq_getElem_cons hil] at hs
          by_cases hir : k < r.length
          · rw [List.drop_eq_getElem_cons hir] at hs
            have hag : aggT P f.type = some false := by
              unfold scalK at hkk
              unfold aggT
              cases hu : P.underlying f.type with
              | none => simp [hu] at hkk
              | some dd => rw [hu] at hkk; cases dd <;> simp at hkk <;> rfl
            have pl : partS false l f.offset 1 = some l[k] := by simp [partS, ho, hil]
            have pr : partS false r f.offset 1 = some r[k] := by simp [partS, ho, hir]
            obtain ⟨u, hu, hvu⟩ := run_part (P := P) hz hag hx pl w
            obtain ⟨u', hu', hvu'⟩ := run_part (P := P) hz hag hy pr w
            simp only [Op.eqFields, hn, ne_eq, not_false_eq_true, if_true, Sem.run_bind, hu, hu', Result.andThen_ok]
            generalize l[k] = p at hs hvu
            generalize r[k] = q at hs hvu'
            simp only [eqCells] at hs
            split at hs
            · rename_i hfit
              simp only [Bool.and_eq_true] at hfit
              have he : ∀ c, keyEq p q = some c → (Op.equalIn (d + 1) f.type u u').run P w = .ok c w := by
                intro c hc
                unfold scalK at hkk
                cases huu : P.underlying f.type with
                | none => simp [huu] at hkk
                | some dd =>
                  rw [huu] at hkk
                  cases dd <;> simp at hkk <;> subst hkk
                  · cases p <;> simp [keyFit] at hfit
                    cases q <;> simp at hfit
                    cases hvu; cases hvu'
                    simp [keyEq] at hc
                    subst hc
                    rw [run_equalIn_bool' w d _ _ _ huu]
                  · cases p <;> simp [keyFit] at hfit
                    cases q <;> simp at hfit
                    cases hvu; cases hvu'
                    simp only [keyEq] at hc
                    split at hc
                    · rename_i hkeq
                      subst hkeq
                      injection hc with hc
                      subst hc
                      rw [run_equalIn_int w d _ _ _ _ _ huu]
                    · cases hc
                  · cases p <;> simp [keyFit] at hfit
                    cases q <;> simp at hfit
                    cases hvu; cases hvu'
                    simp only [keyEq] at hc
                    injection hc with hc
                    subst hc
                    rw [run_equalIn_string w d _ _ _ huu, ← beq_toListBytes]
                    rw [beq_toListBytes]; simp
              cases hke : keyEq p q with
              | none => rw [hke] at hs; cases hs
              | some c =>
                rw [hke] at hs
                rw [he c hke]
                cases c with
                | true =>
                  simp only [Result.andThen_ok, Bool.not_true, Bool.false_eq_true, if_false]
                  exact ih (k + 1) ks' b hks hs
                | false =>
                  simp only at hs
                  injection hs with hs
                  subst hs
                  simp
            · cases hs
          · rw [List.drop_of_length_le (by omega : r.length ≤ k)] at hs
            simp [eqCells] at hs
        · rw [List.drop_of_length_le (by omega : l.length ≤ k)] at hs
          simp [eqCells] at hs
      · cases hk
    · cases hk
theorem q_eqG (hG : GlOk σ G) {o : Oper} {op : BinOp} {neg : Bool} (hop : op = if neg then .neq else .eql) {t yT : TypeId} {x y : Operand} (ho : o.op = .binOp op t x y yT) {ks : List KeyK} (hk : structK P t = some ks)
    {x' y' : Opd} (h1 : trO G x = some x') (h2 : trO G y = some y') (hf : FRo σ fr a.tmps [x', y']) {r : Bool} (hs : eqGV ks (ev fr x') (ev fr y') = some r) : Q1 P o a w σ (.b (if neg then !r else r)) := by
  have hx := ev_sound hG h1 (hf.sub (by simp))
  have hy := ev_sound hG h2 (hf.sub (by simp))
  generalize ev fr x' = p at hx hs
  generalize ev fr y' = q at hy hs
  unfold structK at hk
  cases hu : P.underlying t with
  | none => simp [hu] at hk
  | some dd =>
    rw [hu] at hk
    cases dd <;> simp only at hk <;> (try (cases hk; done))
    rename_i fs
    split at hk
    · rename_i hc
      have hfo : P.fieldsOf t = fs := by simp [Program.fieldsOf, hu]
      refine q_binrun ho ?_ (u := .bool (if neg then !r else r)) ?_ (.b _)
      · generalize a.eval x = u at hx ⊢
        generalize a.eval y = u' at hy ⊢
        cases hx <;> simp [eqGV] at hs
        cases hy <;> simp [eqGV] at hs
        exact run_eqGuard_agg w op t x y _ _ hc.2
      · generalize a.eval x = u at hx ⊢
        generalize a.eval y = u' at hy ⊢
        cases hx <;> simp only [eqGV] at hs <;> (try (cases hs; done))
        cases hy <;> simp only [eqGV] at hs <;> (try (cases hs; done))
        rename_i l us hr l' us' hr'
        have hfl : (Op.equalIn 10000 t (.agg us.toArray) (.agg us'.toArray)).run P w = .ok r w := by
          show (Op.equalIn (9998 + 1 + 1) t (.agg us.toArray) (.agg us'.toArray)).run P w = .ok r w
          rw [run_equalIn_struct w (9998 + 1) t _ _ (by rw [hfo]; exact hu) hc.1, hfo]
          exact run_eqFields 9998 hr hr' w fs.toList 0 ks r hk (by simpa using hs)
        subst hop
        cases neg
        · show (binOp .eql t _ _).run P w = _
          rw [run_eql_struct, hfl]; rfl
        · show (binOp .neq t _ _).run P w = _
          rw [run_neq_struct, hfl]; rfl
    · cases hk
theorem q_un (hG : GlOk σ G) {o : Oper} {op : UnOp} {t : TypeId} {x : Operand} (ho : o.op = .unOp op t x) {x' : Opd} (h1 : trO G x = some x')
    (hf : FRo σ fr a.tmps [x']) {v : V} (hs : unV op (ev fr x') = some v) : Q1 P o a w σ v := by
  have hx := ev_sound hG h1 hf
  generalize ev fr x' = p at hx hs
  refine q_of (s := Op.unary op (a.eval x)) (by simp [execOp, ho]) ?_
  generalize a.eval x = u at hx ⊢
  cases hx <;> cases op <;> simp [unV] at hs <;> subst hs
  · exact ⟨_, by simp [Op.unary], .b _⟩
  all_goals exact ⟨_, by simp [Op.unary, Op.intArith, Op.intBits], .i _ _⟩

theorem q_convI (hG : GlOk σ G) {o : Oper} {src dst : TypeId} {x : Operand} (ho : o.op = .convert src dst x) {k : IntKind} {d : TypeDesc} (h1 : P.underlying src = some d) (h2 : P.underlying dst = some (.int k))
    {x' : Opd} (hx : trO G x = some x') (hf : FRo σ fr a.tmps [x']) {k' : IntKind} {n : Int} (hs : ev fr x' = .i k' n) : Q1 P o a w σ (.i k (k.wrap n)) := by
  have hv := ev_sound hG hx hf
  rw [hs] at hv
  refine q_of (s := convert src dst (a.eval x)) (by simp [execOp, ho]) ⟨.int k (k.wrap n), ?_, .i _ _⟩
  generalize a.eval x = u at hv ⊢
  cases hv
  simp [convert, run_underlying h1, run_underlying h2, Conv.intToInt]

theorem q_convS (hG : GlOk σ G) {o : Oper} {src dst : TypeId} {x : Operand} (ho : o.op = .convert src dst x) (h1 : P.underlying src = some .string) (h2 : P.underlying dst = some .string)
    {x' : Opd} (hx : trO G x = some x') (hf : FRo σ fr a.tmps [x']) {l : List UInt8} (hs : ev fr x' = .s l) : Q1 P o a w σ (.s l) := by
  have hv := ev_sound hG hx hf
  rw [hs] at hv
  refine q_of (s := convert src dst (a.eval x)) (by simp [execOp, ho]) ⟨.string ⟨l.toArray⟩, ?_, .s _⟩
  generalize a.eval x = u at hv ⊢
  cases hv
  simp [convert, run_underlying h1, run_underlying h2]

theorem bytesOf_form {l : List V} : ∀ {bs : List UInt8}, bytesOf l = some bs → ∀ {us : List Value}, VRs σ l us →
    ∃ ns : List Int, us = ns.map (Value.int .u8) ∧ bs = ns.map fun n => UInt8.ofNat n.toNat := by
  induction l with
  | nil => intro bs h us hr; cases hr; simp [bytesOf] at h; subst h; exact ⟨[], rfl, rfl⟩
  | cons v l ih =>
    intro bs h us hr
    cases hr with
    | cons h1 h2 =>
      cases h1 <;> (try (simp only [bytesOf, reduceCtorEq] at h; done))
      rename_i k n
      cases k <;> (try (simp only [bytesOf, reduceCtorEq] at h; done))
      simp [bytesOf] at h
      obtain ⟨bs', hb, rfl⟩ := h
      obtain ⟨ns, rfl, rfl⟩ := ih hb h2
      exact ⟨n :: ns, rfl, rfl⟩

theorem q_convBS (hG : GlOk σ G) (H : HR σ B w0 h w) {o : Oper} {src dst e : TypeId} {x : Operand} (ho : o.op = .convert src dst x) (h1 : P.underlying src = some (.slice e)) (h2 : P.underlying dst = some .string) (h3 : P.underlying e = some (.int .u8))
    {x' : Opd} (hx : trO G x = some x') (hf : FRo σ fr a.tmps [x']) {v : V} {h' : Heap} (hs : opS (.convBS x') fr h = some (v, h')) : h' = h ∧ Q1 P o a w σ v := by
  have hv := ev_sound hG hx hf
  simp only [opS] at hs
  generalize ev fr x' = z at hv hs
  have key : ∀ {v}, (∃ u, (convert src dst (a.eval x)).run P w = .ok u w ∧ VR σ v u) → Q1 P o a w σ v := fun h => q_of (s := convert src dst (a.eval x)) (by simp [execOp, ho]) h
  generalize a.eval x = u at hv key
  cases hv <;> (try (simp only [reduceCtorEq] at hs; done))
  case sl0 z =>
    simp at hs
    obtain ⟨rfl, rfl⟩ := hs
    exact ⟨rfl, key ⟨_, run_convert_bytes_nil w src e h1 h3 0 0 dst h2, .s []⟩⟩
  case sl id off len sz cap l o' c hl ho' hn hle hc =>
    simp only [Option.map_eq_some_iff, Option.bind_eq_some_iff] at hs
    obtain ⟨bs, ⟨cs, hg, hb⟩, hh⟩ := hs
    injection hh with e1 e2
    subst e1; subst e2
    refine ⟨rfl, key ?_⟩
    obtain ⟨hlen, us, hr, hul, _, hcell⟩ := H.read hg hl
    obtain ⟨ns, rfl, rfl⟩ := bytesOf_form hb hr
    have hnl : ns.length = len := by simpa using hul
    by_cases h0 : len = 0
    · subst h0
      have : ns = [] := List.eq_nil_of_length_eq_zero hnl
      subst this
      exact ⟨_, run_convert_bytes_arg w src e h1 h3 l.b o' 0 c [] rfl (fun i hi => by omega) dst h2, by simpa [strOfNums] using VR.s []⟩
    · have := ho' (.inl (by omega))
      subst this
      refine ⟨_, run_convert_bytes_arg w src e h1 h3 l.b (l.o + off) len c ns hnl (fun i hi => ?_) dst h2, by simpa [strOfNums] using VR.s _⟩
      rw [hcell i (.int .u8 (ns.getD i 0))]
      simp [List.getD, List.getElem?_eq_getElem (hnl ▸ hi)]

theorem q_faddr (hG : GlOk σ G) {o : Oper} {t : TypeId} {x : Operand} {i : Nat} (ho : o.op = .fieldAddr t x i) {fs : Array Field} {f : Field} {s : Nat} (h1 : P.underlying t = some (.struct fs)) (h2 : fs[i]? = some f) (h3 : szT P f.type = some s)
    (h4 : 0 < s) {x' : Opd} (hx : trO G x = some x') (hf : FRo σ fr a.tmps [x']) {id off : Nat} (hs : ev fr x' = .p (some (id, off))) : Q1 P o a w σ (.p (some (id, off + f.offset))) := by
  have hv := ev_sound hG hx hf
  rw [hs] at hv
  refine q_of (s := Instr.fieldAt t (a.eval x) i) (by simp [execOp, ho]) ?_
  generalize a.eval x = u at hv ⊢
  cases hv with
  | p hl =>
    refine ⟨_, ?_, .p hl⟩
    have : ¬ s = 0 := by omega
    simp [Instr.fieldAt, run_underlying h1, h2, Instr.sureAddr, fieldPlace, run_szT h3, this, add0, Nat.add_assoc]

theorem q_field (hG : GlOk σ G) {o : Oper} {t : TypeId} {x : Operand} {i : Nat} (ho : o.op = .field t x i) {fs : Array Field} {f : Field} {s : Nat} {agg : Bool} (h1 : P.underlying t = some (.struct fs)) (h2 : fs[i]? = some f) (h3 : szT P f.type = some s)
    (h4 : aggT P f.type = some agg) {x' : Opd} (hx : trO G x = some x') (hf : FRo σ fr a.tmps [x']) {cs : List V} (hs : ev fr x' = .g cs) {v : V} (hp : partS agg cs f.offset s = some v) : Q1 P o a w σ v := by
  have hv := ev_sound hG hx hf
  rw [hs] at hv
  refine q_of (s := Instr.field t (a.eval x) i) (by simp [execOp, ho]) ?_
  generalize a.eval x = u at hv ⊢
  cases hv with
  | g hl =>
    obtain ⟨u, hu, hr⟩ := run_part h3 h4 hl hp w
    exact ⟨u, by simp [Instr.field, run_underlying h1, h2, asAgg, hu], hr⟩

theorem natOf_some {v : V} {n : Nat} (h : natOf v = some n) : ∃ k, v = .i k (n : Int) := by
  unfold natOf at h
  split at h
  · split at h
    · injection h with h; exact ⟨_, by rw [← h]; congr 1; omega⟩
    · cases h
  · cases h

theorem q_iaddrL (hG : GlOk σ G) {o : Oper} {t : TypeId} {x i : Operand} (ho : o.op = .indexAddr t x i) {e : TypeId} {s : Nat} (h1 : P.underlying t = some (.slice e)) (h3 : szT P e = some s)
    {x' i' : Opd} (hx : trO G x = some x') (hi : trO G i = some i') (hf : FRo σ fr a.tmps [x', i']) {id off len n : Nat} {cap : Option Nat} (hs : ev fr x' = .sl (some (id, off)) len cap s) (hn : natOf (ev fr i') = some n) (hlt : n < len) :
    Q1 P o a w σ (.p (some (id, off + n * s))) := by
  have hv := ev_sound hG hx (hf.sub (by simp))
  have hv2 := ev_sound hG hi (hf.sub (by simp))
  obtain ⟨k, hk⟩ := natOf_some hn
  rw [hs] at hv
  rw [hk] at hv2
  refine q_of (s := Instr.indexAt t (a.eval x) (a.eval i)) (by simp [execOp, ho]) ?_
  generalize a.eval x = u at hv ⊢
  generalize a.eval i = u2 at hv2 ⊢
  cases hv2
  cases hv with
  | sl hl ho' hn' hl' hc' =>
    refine ⟨_, ?_, .p hl⟩
    have := ho' (.inl (by omega))
    subst this
    simp [Instr.indexAt, asIntOf, run_underlying h1, run_szT h3, hlt, add0, Nat.add_assoc]

theorem q_iaddrA (hG : GlOk σ G) {o : Oper} {t : TypeId} {x i : Operand} (ho : o.op = .indexAddr t x i) {e : TypeId} {s len : Nat} (h1 : P.underlying t = some (.array len e)) (h3 : szT P e = some s)
    {x' i' : Opd} (hx : trO G x = some x') (hi : trO G i = some i') (hf : FRo σ fr a.tmps [x', i']) {id off n : Nat} (hs : ev fr x' = .p (some (id, off))) (hn : natOf (ev fr i') = some n) (hlt : n < len) :
    Q1 P o a w σ (.p (some (id, off + n * s))) := by
  have hv := ev_sound hG hx (hf.sub (by simp))
  have hv2 := ev_sound hG hi (hf.sub (by simp))
  obtain ⟨k, hk⟩ := natOf_some hn
  rw [hs] at hv
  rw [hk] at hv2
  refine q_of (s := Instr.indexAt t (a.eval x) (a.eval i)) (by simp [execOp, ho]) ?_
  generalize a.eval x = u at hv ⊢
  generalize a.eval i = u2 at hv2 ⊢
  cases hv2
  cases hv with
  | p hl =>
    refine ⟨_, ?_, .p hl⟩
    simp [Instr.indexAt, Instr.sureAddr, asIntOf, run_underlying h1, run_szT h3, hlt, add0, Nat.add_assoc]

theorem q_indexA (hG : GlOk σ G) {o : Oper} {t : TypeId} {x i : Operand} (ho : o.op = .index t x i) {e : TypeId} {s len : Nat} {agg : Bool} (h1 : P.underlying t = some (.array len e)) (h3 : szT P e = some s) (h4 : aggT P e = some agg)
    {x' i' : Opd} (hx : trO G x = some x') (hi : trO G i = some i') (hf : FRo σ fr a.tmps [x', i']) {cs : List V} {n : Nat} (hs : ev fr x' = .g cs) (hn : natOf (ev fr i') = some n) (hlt : n < len) {v : V} (hp : partS agg cs (n * s) s = some v) :
    Q1 P o a w σ v := by
  have hv := ev_sound hG hx (hf.sub (by simp))
  have hv2 := ev_sound hG hi (hf.sub (by simp))
  obtain ⟨k, hk⟩ := natOf_some hn
  rw [hs] at hv
  rw [hk] at hv2
  refine q_of (s := Instr.index t (a.eval x) (a.eval i)) (by simp [execOp, ho]) ?_
  generalize a.eval x = u at hv ⊢
  generalize a.eval i = u2 at hv2 ⊢
  cases hv2
  cases hv with
  | g hl =>
    obtain ⟨u, hu, hr⟩ := run_part h3 h4 hl hp w
    exact ⟨u, by simp [Instr.index, asIntOf, run_underlying h1, run_szT h3, hlt, hu], hr⟩

theorem q_indexS (hG : GlOk σ G) {o : Oper} {t : TypeId} {x i : Operand} (ho : o.op = .index t x i) (h1 : P.underlying t = some .string)
    {x' i' : Opd} (hx : trO G x = some x') (hi : trO G i = some i') (hf : FRo σ fr a.tmps [x', i']) {l : List UInt8} {n : Nat} {c : UInt8} (hs : ev fr x' = .s l) (hn : natOf (ev fr i') = some n) (hc : l[n]? = some c) :
    Q1 P o a w σ (.i .u8 c.toNat) := by
  have hv := ev_sound hG hx (hf.sub (by simp))
  have hv2 := ev_sound hG hi (hf.sub (by simp))
  obtain ⟨k, hk⟩ := natOf_some hn
  rw [hs] at hv
  rw [hk] at hv2
  refine q_of (s := Instr.index t (a.eval x) (a.eval i)) (by simp [execOp, ho]) ?_
  generalize a.eval x = u at hv ⊢
  generalize a.eval i = u2 at hv2 ⊢
  cases hv2
  cases hv with
  | s l =>
    refine ⟨_, ?_, .i _ _⟩
    have hb : (⟨l.toArray⟩ : ByteArray)[n]? = some c := by
      obtain ⟨hlt, rfl⟩ := List.getElem?_eq_some_iff.1 hc
      have hs : n < (⟨l.toArray⟩ : ByteArray).size := by simpa [ByteArray.size] using hlt
      rw [getElem?_pos _ n hs]
      rfl
    simp [Instr.index, asIntOf, run_underlying h1, hb]

theorem q_extract (hG : GlOk σ G) {o : Oper} {x : Operand} {i : Nat} (ho : o.op = .extract x i) {x' : Opd} (hx : trO G x = some x') (hf : FRo σ fr a.tmps [x']) {l : List V} (hs : ev fr x' = .t l) {v : V} (hv : l[i]? = some v) : Q1 P o a w σ v := by
  have hr := ev_sound hG hx hf
  rw [hs] at hr
  refine q_of (s := Instr.extract (a.eval x) i) (by simp [execOp, ho]) ?_
  generalize a.eval x = u at hr ⊢
  cases hr with
  | t hl =>
    obtain ⟨u, hu, hv'⟩ := hl.get hv
    exact ⟨u, by simp [Instr.extract, hu], hv'⟩

theorem q_mkif (hG : GlOk σ G) {o : Oper} {t : TypeId} {x : Operand} (ho : o.op = .makeInterface t x) {d : TypeDesc} (h1 : P.underlying t = some d) (h2 : ∀ m, d ≠ .interface m) {x' : Opd} (hx : trO G x = some x') (hf : FRo σ fr a.tmps [x']) :
    Q1 P o a w σ (.ic t (ev fr x')) := by
  have hr := ev_sound hG hx hf
  refine q_of (s := Instr.makeInterface t (a.eval x)) (by simp [execOp, ho]) ⟨_, ?_, .ic t hr⟩
  cases d <;> first | exact absurd rfl (h2 _) | simp [Instr.makeInterface, run_underlying h1]

theorem q_mkfn (hG : GlOk σ G) {o : Oper} {f : FuncId} {cs : Array Operand} {first : Array Operand} (hfi : first.isEmpty = true) (ho : o.op = .makeFunc (.func f) first cs) {cs' : List Opd} (hx : trOs G cs.toList = some cs') (hf : FRo σ fr a.tmps cs') :
    Q1 P o a w σ (.f f (cs'.map (ev fr))) := by
  have hr := evs_sound hG hx hf
  refine q_of (s := Instr.makeFunc (.func f) (first.map a.eval) (cs.map a.eval)) (by simp [execOp, ho]) ⟨_, ?_, .f f hr⟩
  have : first = #[] := by simpa using hfi
  subst this
  simp [Instr.makeFunc]
  rw [← Array.toList_map]

theorem bound_run (hG : GlOk σ G) {x : Operand} {x' : Opd} (hx : trO G x = some x') (hf : FRo σ fr a.tmps [x']) {n y : Nat} (hn : natOf (ev fr x') = some n) (hle : n ≤ y) (code : BoundsCode) (w : World) :
    (Instr.sliceBound (a.eval x) y code).run P w = .ok n w := by
  have hv := ev_sound hG hx hf
  obtain ⟨k, hk⟩ := natOf_some hn
  rw [hk] at hv
  generalize a.eval x = u at hv ⊢
  cases hv
  simp [Instr.sliceBound, asIntOf, hle]

theorem trOo_none {x : Option Operand} (h : trOo G x = some none) : x = none := by
  cases x with
  | none => rfl
  | some x => cases ht : trO G x <;> simp [trOo, ht] at h
theorem trOo_some {x : Option Operand} {y : Opd} (h : trOo G x = some (some y)) : ∃ z, x = some z ∧ trO G z = some y := by
  cases x with
  | none => simp [trOo] at h
  | some x => cases ht : trO G x <;> simp [trOo, ht] at h; subst h; exact ⟨x, rfl, ht⟩

/-- The bounds of a slicing. -/
theorem bounds_run (hG : GlOk σ G) {lo hi mx : Option Operand} {lo' hi' mx' : Option Opd} (h1 : trOo G lo = some lo') (h2 : trOo G hi = some hi') (h3 : trOo G mx = some mx')
    (hf : FRo σ fr a.tmps (ooL lo' ++ (ooL hi' ++ ooL mx'))) {len cap l u m : Nat} (isS : Bool) (hl : bound fr lo' 0 = some l) (hu : bound fr hi' len = some u) (hm : bound fr mx' cap = some m)
    (hlu : l ≤ u) (hum : u ≤ m) (hmc : m ≤ cap) (hmh : mx'.isSome → hi'.isSome) (w : World) :
    (Instr.sliceBounds isS len cap (lo.map a.eval) (hi.map a.eval) (mx.map a.eval)).run P w = .ok (l, u, m) w := by
  have hlow : ∀ (W : World) (code : BoundsCode) (m : Nat), (match lo.map a.eval with | some v => (fun q => (q, u, m)) <$> Instr.sliceBound v u code | none => pure (0, u, m) : Sem (Nat × Nat × Nat)).run P W = .ok (l, u, m) W := fun W code m => by
    cases lo' with
    | none => rw [trOo_none h1]; simp [bound] at hl; subst hl; rfl
    | some y => obtain ⟨z, rfl, hz⟩ := trOo_some h1; simp [bound_run (P := P) hG hz (hf.sub (by simp [ooL])) hl hlu code W]
  cases mx' with
  | none =>
    rw [trOo_none h3]
    simp [bound] at hm
    subst hm
    cases hi' with
    | none =>
      rw [trOo_none h2]
      simp [bound] at hu
      subst hu
      simp [Instr.sliceBounds]
      exact hlow _ _ _
    | some y =>
      obtain ⟨z, rfl, hz⟩ := trOo_some h2
      have hb := fun code => bound_run (P := P) hG hz (hf.sub (by simp [ooL])) hu hum code w
      simp [Instr.sliceBounds, hb]
      exact hlow _ _ _
  | some q =>
    obtain ⟨zm, rfl, hzm⟩ := trOo_some h3
    cases hi' with
    | none => simp at hmh
    | some y =>
      obtain ⟨z, rfl, hz⟩ := trOo_some h2
      have hb := fun code => bound_run (P := P) hG hz (hf.sub (by simp [ooL])) hu hum code w
      have hbm := fun code => bound_run (P := P) hG hzm (hf.sub (by simp [ooL])) hm hmc code w
      simp [Instr.sliceBounds, hb, hbm]
      exact hlow _ _ _

theorem q_sliceS (hG : GlOk σ G) {o : Oper} {t : TypeId} {x : Operand} {lo hi : Option Operand} (ho : o.op = .slice t x lo hi none) (h1 : P.underlying t = some .string) {x' : Opd} {lo' hi' : Option Opd} (hx : trO G x = some x')
    (hlo : trOo G lo = some lo') (hhi : trOo G hi = some hi') (hf : FRo σ fr a.tmps (x' :: (ooL lo' ++ ooL hi'))) {s : List UInt8} (hs : ev fr x' = .s s) {l u : Nat} (hl : bound fr lo' 0 = some l) (hu : bound fr hi' s.length = some u) (hlu : l ≤ u) (hus : u ≤ s.length) :
    Q1 P o a w σ (.s ((s.take u).drop l)) := by
  have hv := ev_sound hG hx (hf.sub (by simp))
  rw [hs] at hv
  have hb := bounds_run (P := P) hG hlo hhi (mx := none) (mx' := none) rfl (hf.sub (by simp [ooL]; intro y h; rcases h with h | h <;> simp [h])) (len := s.length) (cap := s.length) false hl hu rfl hlu hus (Nat.le_refl _) (by simp) w
  refine q_of (s := Instr.sliceAt t (a.eval x) (lo.map a.eval) (hi.map a.eval) none) (by simp [execOp, ho]) ⟨_, ?_, .s _⟩
  generalize a.eval x = v at hv ⊢
  cases hv
  have e1 : (⟨s.toArray⟩ : ByteArray).size = s.length := by simp [ByteArray.size]
  simp only [Option.map_none] at hb
  simp only [Instr.sliceAt, Sem.run_bind, run_underlying h1, Result.andThen_ok, Instr.slice, e1, Option.isSome_none]
  simp [hb]
  apply ByteArray.ext
  rw [ByteArray.data_extract, List.extract_toArray, List.extract_eq_take_drop, List.drop_take]

theorem q_sliceL (hG : GlOk σ G) {o : Oper} {t e : TypeId} {x : Operand} {lo hi mx : Option Operand} (ho : o.op = .slice t x lo hi mx) (h1 : P.underlying t = some (.slice e)) {sz : Nat} (h2 : szT P e = some sz) {x' : Opd} {lo' hi' mx' : Option Opd} (hx : trO G x = some x')
    (hlo : trOo G lo = some lo') (hhi : trOo G hi = some hi') (hmx : trOo G mx = some mx') (hf : FRo σ fr a.tmps (x' :: (ooL lo' ++ (ooL hi' ++ ooL mx'))))
    {v : V} {h' : Heap} (hs : opS (.sliceL sz x' lo' hi' mx') fr h = some (v, h')) :
    h' = h ∧ Q1 P o a w σ v := by
  have hv := ev_sound hG hx (hf.sub (by simp))
  have hf' : FRo σ fr a.tmps (ooL lo' ++ (ooL hi' ++ ooL mx')) := hf.sub (by intro y hy; exact List.mem_cons_of_mem _ hy)
  simp only [opS] at hs
  have hx' : execOp a.eval o = (do pure (Next.value (← Instr.sliceAt t (a.eval x) (lo.map a.eval) (hi.map a.eval) (mx.map a.eval)))) := by simp [execOp, ho]
  generalize a.eval x = xv at hv hx'
  generalize ev fr x' = z at hv hs
  split at hs
  · rename_i A len cap zz
    split at hs
    · rename_i l u m hl hu hm
      split at hs
      · rename_i hc
        obtain ⟨hlu, hum, hmc, hmh, hzz⟩ := hc
        injection hs with hs
        injection hs with e1 e2
        subst e1
        refine ⟨e2.symm, q_of hx' ?_⟩
        cases hv with
        | sl0 =>
          simp at hmc
          have hm0 : m = 0 := by omega
          have hu0 : u = 0 := by omega
          have hl0 : l = 0 := by omega
          subst hm0 hu0 hl0
          have hb := bounds_run (P := P) hG hlo hhi hmx hf' (len := 0) (cap := 0) true hl hu hm (by omega) (by omega) (by omega) hmh w
          refine ⟨.slice none 0 0, ?_, ?_⟩
          · simp [Instr.sliceAt, run_underlying h1, Instr.slice, hb, run_szT h2]
          · by_cases hq : mx'.isSome <;> simp [hq] <;> exact .sl0 _
        | sl hL hoo hn hle hcc =>
          rename_i id off L o' c
          have hsz' : zz = sz := hzz rfl
          subst hsz'
          have hcl : cap.getD len ≤ c := by cases cap with | none => simpa using hle | some k => simp [hcc k rfl]
          have hfull : bound fr mx' c = some (if mx'.isSome then m else c) := by
            cases mx' with | none => rfl | some q => simpa [bound] using hm
          have hmM : m ≤ (if mx'.isSome then m else c) := by split <;> omega
          have hMc : (if mx'.isSome then m else c) ≤ c := by split <;> omega
          have hkn : mx'.isSome = false → ∀ k, cap = some k → c = k := fun _ => hcc
          have hmn : mx'.isSome = false → m = cap.getD len := fun h => by
            cases mx' with | none => simpa [bound] using hm.symm | some q => simp at h
          generalize hMd : (if mx'.isSome then m else c) = M at hfull hmM hMc
          have hb := bounds_run (P := P) hG hlo hhi hmx hf' (len := len) (cap := c) true hl hu hfull hlu (by omega) hMc hmh w
          refine ⟨.slice (some ⟨L.b, if M = l then o' else o' + l * zz, none⟩) (u - l) (M - l), ?_, .sl hL ?_ ?_ (by omega) ?_⟩
          · simp only [Instr.sliceAt, Sem.run_bind, run_underlying h1, Result.andThen_ok, Instr.slice, hb, run_szT h2, Sem.run_pure]
            by_cases hML : M = l
            · simp [hML]
            · simp [hML, add0]
          · intro hor
            have hML : ¬ M = l := by
              rcases hor with hor | ⟨k, hk, hk0⟩
              · omega
              · by_cases hq : mx'.isSome
                · simp only [hq, if_true, Option.some.injEq] at hk hMd; omega
                · simp only [hq, if_false, Bool.false_eq_true] at hk hMd
                  cases cap with
                  | none => simp at hk
                  | some k' => simp at hk; have := hcc k' rfl; omega
            rw [if_neg hML, hoo ?_, Nat.add_assoc]
            rcases hor with hor | ⟨k, hk, hk0⟩
            · cases cap with
              | none => simp at hmc; left; omega
              | some k' => simp at hmc; right; exact ⟨k', rfl, by omega⟩
            · by_cases hq : mx'.isSome
              · simp only [hq, if_true, Option.some.injEq] at hk
                cases cap with
                | none => simp at hmc; left; omega
                | some k' => simp at hmc; right; exact ⟨k', rfl, by omega⟩
              · simp only [hq, if_false, Bool.false_eq_true] at hk
                cases cap with
                | none => simp at hk
                | some k' => simp at hk; right; exact ⟨k', rfl, by omega⟩
          · have h3 : M * zz ≤ c * zz := Nat.mul_le_mul_right _ hMc
            by_cases hML : M = l
            · rw [if_pos hML, hML]; simp; omega
            · rw [if_neg hML]
              have : l * zz + (M - l) * zz = M * zz := by rw [← Nat.add_mul]; congr 1; omega
              omega
          · intro k hk
            by_cases hq : mx'.isSome
            · simp only [hq, if_true, Option.some.injEq] at hk hMd; omega
            · simp only [hq, if_false, Bool.false_eq_true] at hk hMd
              cases cap with
              | none => simp at hk
              | some k' => simp at hk; have := hcc k' rfl; omega
      · cases hs
    · cases hs
  · cases hs

theorem q_sliceA (hG : GlOk σ G) (H : HR σ B w0 h w) {o : Oper} {t e : TypeId} {n : Nat} {x : Operand} {lo hi : Option Operand} (ho : o.op = .slice t x lo hi none) (h1 : P.underlying t = some (.array n e)) {sz : Nat} (h2 : szT P e = some sz) {x' : Opd} {lo' hi' : Option Opd} (hx : trO G x = some x')
    (hlo : trOo G lo = some lo') (hhi : trOo G hi = some hi') (hf : FRo σ fr a.tmps (x' :: (ooL lo' ++ ooL hi'))) {v : V} {h' : Heap} (hs : opS (.sliceA n sz x' lo' hi') fr h = some (v, h')) : h' = h ∧ Q1 P o a w σ v := by
  have hv := ev_sound hG hx (hf.sub (by simp))
  simp only [opS] at hs
  have hx' : execOp a.eval o = (do pure (Next.value (← Instr.sliceAt t (a.eval x) (lo.map a.eval) (hi.map a.eval) none))) := by simp [execOp, ho]
  generalize a.eval x = xv at hv hx'
  generalize ev fr x' = z at hv hs
  split at hs
  · rename_i id off
    split at hs
    · rename_i l u hl hu
      split at hs
      · rename_i hc
        obtain ⟨hlu, hun, hg⟩ := hc
        injection hs with hs
        injection hs with e1 e2
        subst e1
        refine ⟨e2.symm, q_of hx' ?_⟩
        obtain ⟨cs, hg⟩ := Option.isSome_iff_exists.1 hg
        obtain ⟨vs, ro, ty, hh, hle, _⟩ := getCells_some hg
        cases hv with
        | p hL =>
          rename_i L
          obtain ⟨_, h3, _, _⟩ := H.obj id _ L hh hL
          have hb := bounds_run (P := P) hG hlo hhi (mx := none) (mx' := none) rfl (hf.sub (by simp [ooL]; intro y h; rcases h with h | h <;> simp [h])) (len := n) (cap := n) false hl hu rfl hlu hun (Nat.le_refl _) (by simp) w
          simp only [Option.map_none] at hb
          refine ⟨.slice (some ⟨L.b, if n = l then L.o + off else L.o + off + l * sz, none⟩) (u - l) (n - l), ?_, .sl hL ?_ ?_ (by omega) (fun k hk => by injection hk)⟩
          · simp only [Instr.sliceAt, Sem.run_bind, run_underlying h1, Result.andThen_ok, Instr.sureAddr, hb, run_szT h2, Sem.run_pure]
            by_cases hML : n = l
            · simp [hML]
            · simp [hML, add0]
          · intro hor
            have hML : ¬ n = l := by
              rcases hor with hor | ⟨k, hk, hk0⟩
              · omega
              · injection hk with hk; omega
            rw [if_neg hML]; omega
          · by_cases hML : n = l
            · rw [if_pos hML, hML]; simp; omega
            · rw [if_neg hML]
              have : l * sz + (n - l) * sz = n * sz := by rw [← Nat.add_mul]; congr 1; omega
              omega
      · cases hs
    · cases hs
  · cases hs

theorem bytes_beq (x y : List UInt8) : ((⟨x.toArray⟩ : ByteArray) == ⟨y.toArray⟩) = (x == y) := by
  rw [beq_toListBytes]; simp

def KeyAt (d : TypeDesc) (k : V) : Prop := (∃ i, d = .int i ∧ ∃ ik n, k = .i ik n) ∨ (d = .string ∧ ∃ s, k = .s s) ∨ (d = .bool ∧ ∃ b, k = .b b)

theorem keyEq_now {k k2 : V} {u u2 : Value} {d : TypeDesc} {r : Bool} (hk : VR σ k u) (hk2 : VR σ k2 u2) (he : keyEq k k2 = some r) (hd : KeyAt d k) : Instr.sameNow d u u2 = some r := by
  rcases hd with ⟨i, rfl, ik, n, rfl⟩ | ⟨rfl, s, rfl⟩ | ⟨rfl, b, rfl⟩ <;> cases hk <;> cases hk2 <;> simp [keyEq] at he
  · obtain ⟨h1, h2⟩ := he; subst h1; subst h2; simp [Instr.sameNow]
  · subst he; simp [Instr.sameNow, bytes_beq]
  · subst he; simp [Instr.sameNow]

/-- An entry is found in both, or in neither. -/
def FindR (σ : Sg) (n m : Nat) : Option (Nat × V) → Option (Nat × Value) → Prop
  | none, none => True
  | some (i, v), some (i', v') => i = i' ∧ VR σ v v' ∧ ∃ j, i = n + j ∧ j < m
  | _, _ => False

/-- Which entry has a key. -/
theorem find_sound {k : V} {u : Value} {d : TypeDesc} (hk : VR σ k u) (hd : KeyAt d k) :
    ∀ (es : List (V × V)) (mes : List MapEntry) (n : Nat), mes.length = es.length → (∀ (j : Nat) (e : V × V), es[j]? = some e → ∃ me : MapEntry, mes[j]? = some me ∧ VR σ e.1 me.key ∧ VR σ e.2 me.val) →
    ∀ r, findK k es n = some r → ∃ r', Instr.findNow d u mes n = some r' ∧ FindR σ n es.length r r' := by
  intro es
  induction es with
  | nil =>
    intro mes n hl _ r hr
    have : mes = [] := List.eq_nil_of_length_eq_zero (by simpa using hl)
    subst this
    simp [findK] at hr
    subst hr
    exact ⟨none, rfl, trivial⟩
  | cons e es ih =>
    intro mes n hl hm r hr
    cases mes with
    | nil => simp at hl
    | cons me mes =>
      obtain ⟨me', h1, h2, h3⟩ := hm 0 e rfl
      simp at h1
      subst h1
      simp only [findK] at hr
      split at hr
      · rename_i hq
        injection hr with hr
        subst hr
        refine ⟨some (n, me.val), ?_, rfl, h3, 0, rfl, by simp⟩
        simp [Instr.findNow, keyEq_now hk h2 hq hd]
      · rename_i hq
        obtain ⟨r', hr', hh⟩ := ih mes (n + 1) (by simpa using hl) (fun j e' he' => by simpa using hm (j + 1) e' (by simpa using he')) r hr
        refine ⟨r', by simp [Instr.findNow, keyEq_now hk h2 hq hd, hr'], ?_⟩
        cases r with
        | none => cases r' with | none => trivial | some q' => exact hh
        | some q =>
          obtain ⟨i, v⟩ := q
          cases r' with
          | none => exact hh
          | some q' =>
            obtain ⟨i', v'⟩ := q'
            obtain ⟨a1, a2, j, a3, a4⟩ := hh
            exact ⟨a1, a2, j + 1, by omega, by simp; omega⟩
      · cases hr

/-- A key's type: a simple one, or a row of numbers. -/
theorem keyK_form {t : TypeId} {kk : KeyK} (h : keyK P t = some kk) {k : V} (hk : keyFit kk k = true) :
    (∃ d, P.underlying t = some d ∧ KeyAt d k) ∨ (∃ n e ek l, P.underlying t = some (.array n e) ∧ P.underlying e = some (.int ek) ∧ szT P e = some 1 ∧ k = .g l ∧ l.length = n ∧ l.all V.isInt = true) := by
  unfold keyK at h
  cases hu : P.underlying t with
  | none => simp [hu] at h
  | some d =>
    rw [hu] at h
    cases d with
    | array n e =>
      right
      simp only at h
      split at h
      · rename_i ek h1 h2
        injection h with h
        subst h
        cases k <;> simp [keyFit] at hk
        rename_i l
        exact ⟨n, e, ek, l, rfl, h1, h2, rfl, hk.1, by simpa using hk.2⟩
      · cases h
    | _ =>
      left
      refine ⟨_, rfl, ?_⟩
      simp at h <;> subst h <;> cases k <;> simp [keyFit] at hk <;> simp [KeyAt]

theorem aggT_int {e : TypeId} {ek : IntKind} (h : P.underlying e = some (.int ek)) : aggT P e = some false := by simp [aggT, h]
theorem info_sz {e : TypeId} {n : Nat} (hs : szT P e = some n) : ∃ i, P.info? e = some i ∧ P.cellsOf e = n := by
  obtain ⟨i, h1, h2⟩ := szT_some hs
  exact ⟨i, h1, by simp [Program.cellsOf, h1, h2]⟩
theorem isInt_form {v : V} (h : v.isInt = true) : ∃ k n, v = .i k n := by
  cases v <;> simp [V.isInt] at h
  exact ⟨_, _, rfl⟩
theorem run_eqItems {e : TypeId} {ek : IntKind} (he : P.underlying e = some (.int ek)) (hz : szT P e = some 1) (d : Nat) {xs ys : List Value} {l r : List V} (hx : VRs σ l xs) (hy : VRs σ r ys) (w : World) :
    ∀ (m i : Nat) (b : Bool), l.length = i + m → intsEq (l.drop i) (r.drop i) = some b → (Op.eqItems (d + 1) e 1 xs.toArray ys.toArray (List.range' i m)).run P w = .ok b w := by
  intro m
  induction m with
  | zero =>
    intro i b hl hs
    have hd : l.drop i = [] := List.drop_of_length_le (by omega)
    rw [hd] at hs
    cases hr : r.drop i with
    | nil => rw [hr] at hs; simp [intsEq] at hs; subst hs; simp [Op.eqItems]
    | cons y r' => rw [hr] at hs; simp [intsEq] at hs
  | succ m ih =>
    intro i b hl hs
    have hil : i < l.length := by omega
    rw [List.drop_eq_getElem_cons hil] at hs
    by_cases hir : i < r.length
    · rw [List.drop_eq_getElem_cons hir] at hs
      have pl : partS false l i 1 = some l[i] := by simp [partS, hil]
      have pr : partS false r i 1 = some r[i] := by simp [partS, hir]
      obtain ⟨u, hu, hvu⟩ := run_part (P := P) hz (aggT_int he) hx pl w
      obtain ⟨u', hu', hvu'⟩ := run_part (P := P) hz (aggT_int he) hy pr w
      simp only [List.range'_succ, Op.eqItems, Nat.mul_one, Sem.run_bind, hu, hu', Result.andThen_ok]
      generalize l[i] = p at hs hvu
      generalize r[i] = q at hs hvu'
      cases p <;> (try (simp [intsEq] at hs; done))
      cases q <;> (try (simp [intsEq] at hs; done))
      simp only [intsEq] at hs
      split at hs
      · rename_i hk
        subst hk
        cases hvu
        cases hvu'
        rw [run_equalIn_int w d e _ ek _ _ he]
        simp only [Result.andThen_ok]
        split at hs
        · rename_i hab
          simp only [hab, Bool.not_true, Bool.false_eq_true, if_false]
          exact ih (i + 1) b (by omega) hs
        · rename_i hab
          injection hs with hs
          subst hs
          simp [hab]
      · cases hs
    · rw [List.drop_of_length_le (by omega : r.length ≤ i)] at hs
      generalize l[i] = p at hs
      cases p <;> simp [intsEq] at hs
theorem run_equal_arr {t e : TypeId} {n : Nat} {ek : IntKind} (ht : P.underlying t = some (.array n e)) (he : P.underlying e = some (.int ek)) (hz : szT P e = some 1) {xs ys : List Value} {l r : List V} (hx : VRs σ l xs) (hy : VRs σ r ys) (hl : l.length = n) {b : Bool} (hs : intsEq l r = some b) (w : World) :
    (Op.equal t (.agg xs.toArray) (.agg ys.toArray)).run P w = .ok b w := by
  obtain ⟨i, hi, hc⟩ := info_sz hz
  show (Op.equalIn (9998 + 1 + 1) t (.agg xs.toArray) (.agg ys.toArray)).run P w = .ok b w
  rw [run_equalIn_array w (9998 + 1) xs.toArray ys.toArray ht hi, hc, List.range_eq_range']
  exact run_eqItems he hz 9998 hx hy w n 0 b (by omega) (by simpa using hs)
theorem run_checkKey {t : TypeId} {kk : KeyK} (h : keyK P t = some kk) {k : V} (hk : keyFit kk k = true) {u : Value} (hu : VR σ k u) (em : Bool) (w : World) : (Instr.checkKey em 10000 t u).run P w = .ok () w := by
  rcases keyK_form h hk with ⟨d, hd, hat⟩ | ⟨n, e, ek, l, ht, he, hz, rfl, hl, hint⟩
  · have hm : ∀ m : Nat, (Instr.checkKey em (m + 1) t u).run P w = .ok () w := fun m => by
      rcases hat with ⟨i, rfl, ik, m, rfl⟩ | ⟨rfl, s, rfl⟩ | ⟨rfl, b, rfl⟩ <;> simp [Instr.checkKey, run_underlying hd]
    exact hm 9999
  · cases hu with
    | g hr =>
      rename_i us
      show (Instr.checkKey em (9998 + 1 + 1) t (.agg us.toArray)).run P w = .ok () w
      rw [Instr.checkKey]
      simp only [Sem.run_bind, run_underlying ht, Result.andThen_ok]
      simp only [Std.Legacy.Range.forIn_eq_forIn_range', Std.Legacy.Range.size, Nat.sub_zero, Nat.add_one_sub_one, Nat.div_one]
      have hall : ∀ i ∈ List.range' 0 n, i < l.length := fun i hi => by rw [List.mem_range'_1] at hi; omega
      generalize List.range' 0 n = is at hall
      induction is with
      | nil => simp
      | cons j is ih =>
        have hj : j < l.length := hall j (by simp)
        have pl : partS false l (j * 1) 1 = some l[j] := by simp [partS, hj]
        obtain ⟨u, hu, hvu⟩ := run_part (P := P) hz (aggT_int he) hr pl w
        obtain ⟨k', m, hkm⟩ := isInt_form (List.all_eq_true.1 hint _ (List.getElem_mem hj))
        rw [hkm] at hvu
        cases hvu
        have hck0 : ∀ d : Nat, (Instr.checkKey em (d + 1) e (.int k' m)).run P w = .ok () w := fun d => by simp [Instr.checkKey, run_underlying he]
        have hck := hck0 9998
        simp only [List.forIn_cons, Sem.run_bind, run_szT hz, Result.andThen_ok, hu, hck, Sem.run_pure]
        exact ih (fun y hy => hall y (by simp [hy]))
theorem find_arr {t e : TypeId} {n : Nat} {ek : IntKind} (ht : P.underlying t = some (.array n e)) (he : P.underlying e = some (.int ek)) (hz : szT P e = some 1) {l : List V} {u : Value} (hk : VR σ (.g l) u) (hl : l.length = n) (w : World) :
    ∀ (es : List (V × V)) (mes : List MapEntry) (m : Nat), mes.length = es.length → (∀ (j : Nat) (e : V × V), es[j]? = some e → ∃ me : MapEntry, mes[j]? = some me ∧ VR σ e.1 me.key ∧ VR σ e.2 me.val) →
    ∀ r, findK (.g l) es m = some r → ∃ r', (Instr.findAsking t u mes m).run P w = .ok r' w ∧ FindR σ m es.length r r' := by
  intro es
  induction es with
  | nil =>
    intro mes m hl _ r hr
    have : mes = [] := List.eq_nil_of_length_eq_zero (by simpa using hl)
    subst this
    simp [findK] at hr
    subst hr
    exact ⟨none, by simp [Instr.findAsking], trivial⟩
  | cons e0 es ih =>
    intro mes m hlm hm r hr
    cases mes with
    | nil => simp at hlm
    | cons me mes =>
      obtain ⟨me', h1, h2, h3⟩ := hm 0 e0 rfl
      simp at h1
      subst h1
      obtain ⟨k0, v0⟩ := e0
      simp only at h2 h3
      simp only [findK] at hr
      have hke : ∀ b, keyEq (.g l) k0 = some b → (Op.equal t u me.key).run P w = .ok b w := by
        intro b hb
        cases hk with
        | g hr' =>
          generalize me.key = uk at h2
          cases k0 <;> simp [keyEq] at hb
          cases h2 with
          | g h2' => exact run_equal_arr ht he hz hr' h2' hl hb w
      split at hr
      · rename_i hq
        injection hr with hr
        subst hr
        refine ⟨some (m, me.val), ?_, rfl, h3, 0, rfl, by simp⟩
        simp [Instr.findAsking, hke _ hq]
      · rename_i hq
        obtain ⟨r', hr', hh⟩ := ih mes (m + 1) (by simpa using hlm) (fun j e' he' => by simpa using hm (j + 1) e' (by simpa using he')) r hr
        refine ⟨r', by simp [Instr.findAsking, hke _ hq, hr'], ?_⟩
        cases r with
        | none => cases r' with | none => trivial | some q' => exact hh
        | some q =>
          obtain ⟨i, v⟩ := q
          cases r' with
          | none => exact hh
          | some q' =>
            obtain ⟨i', v'⟩ := q'
            obtain ⟨a1, a2, j, a3, a4⟩ := hh
            exact ⟨a1, a2, j + 1, by omega, by simp; omega⟩
      · cases hr
theorem run_findKey {t : TypeId} {kk : KeyK} (h : keyK P t = some kk) {k : V} (hk : keyFit kk k = true) {u : Value} (hu : VR σ k u) {es : List (V × V)} {mes : List MapEntry} (hl : mes.length = es.length)
    (hm : ∀ (j : Nat) (e : V × V), es[j]? = some e → ∃ me : MapEntry, mes[j]? = some me ∧ VR σ e.1 me.key ∧ VR σ e.2 me.val) {r : Option (Nat × V)} (hr : findK k es 0 = some r) (w : World) :
    ∃ r', (Instr.findKey t u mes).run P w = .ok r' w ∧ FindR σ 0 es.length r r' := by
  rcases keyK_form h hk with ⟨d, hd, hat⟩ | ⟨n, e, ek, l, ht, he, hz, rfl, hln, hint⟩
  · obtain ⟨r', h1, h2⟩ := find_sound hu hat es mes 0 hl hm r hr
    exact ⟨r', by simp [Instr.findKey, run_underlying hd, h1], h2⟩
  · cases mes with
    | nil =>
      have : es = [] := List.eq_nil_of_length_eq_zero (by simpa using hl.symm)
      subst this
      simp [findK] at hr
      subst hr
      exact ⟨none, by simp [Instr.findKey, run_underlying ht, Instr.findNow], trivial⟩
    | cons me mes =>
      obtain ⟨r', h1, h2⟩ := find_arr ht he hz hu hln w es (me :: mes) 0 hl hm r hr
      refine ⟨r', ?_, h2⟩
      have hn : Instr.findNow (.array n e) u (me :: mes) 0 = none := by simp [Instr.findNow, Instr.sameNow]
      simp only [Instr.findKey, Sem.run_bind, run_underlying ht, Result.andThen_ok, hn]
      exact h1

theorem q_lookup (hG : GlOk σ G) (H : HR σ B w0 h w) {o : Oper} {t kt e : TypeId} {x k : Operand} {ok : Bool} (ho : o.op = .lookup t x k ok) (h1 : P.underlying t = some (.map kt e)) {zv : Value} {z : V} (hz : zeroV P e = some zv) (hzv : ofVal zv = some z)
    {kk : KeyK} (hkk : keyK P kt = some kk) {x' k' : Opd} (hx : trO G x = some x') (hk : trO G k = some k') (hf : FRo σ fr a.tmps [x', k']) {v : V} {h' : Heap} (hs : opS (.lookup kk z x' k' ok) fr h = some (v, h')) : h' = h ∧ Q1 P o a w σ v := by
  have hv := ev_sound hG hx (hf.sub (by simp))
  have hv2 := ev_sound hG hk (hf.sub (by simp))
  have hzz := ofVal_sound σ hzv
  have hrz : (zeroValue e).run P w = .ok zv w := by
    unfold zeroV at hz
    cases hi : P.info? e with
    | none => simp [hi] at hz
    | some i => simp [hi] at hz; simp [zeroValue, typeInfo, hi, hz]
  simp only [opS] at hs
  split at hs
  · cases hs
  rename_i hfit
  simp at hfit
  have hx' : execOp a.eval o = (do pure (Next.value (← Instr.lookup t (a.eval x) (a.eval k) ok))) := by simp [execOp, ho]
  generalize a.eval x = xv at hv hx'
  generalize a.eval k = kv at hv2 hx'
  generalize ev fr x' = p at hv hs
  generalize ev fr k' = q at hv2 hs hfit
  split at hs
  · cases hv
    injection hs with hs
    injection hs with e1 e2
    subst e1
    refine ⟨e2.symm, q_of hx' ?_⟩
    have hfk : (Instr.findKey kt kv []).run P w = .ok none w := by
      rcases keyK_form hkk hfit with ⟨d, hd, hat⟩ | ⟨n, e, ek, l, ht, _⟩
      · simp [Instr.findKey, run_underlying hd, Instr.findNow]
      · simp [Instr.findKey, run_underlying ht, Instr.findNow]
    refine ⟨if ok then .tuple #[zv, .bool false] else zv, ?_, ?_⟩
    · simp [Instr.lookup, run_underlying h1, run_checkKey hkk hfit hv2, hfk, hrz]
    · cases ok
      · exact hzz
      · exact VR.t (.cons hzz (.cons (.b _) .nil))
  · rename_i id
    cases hv with
    | m hl =>
      rename_i L
      split at hs
      · rename_i es he
        obtain ⟨hB, mes, ck, hb, hsz, hm⟩ := H.obj id _ L he hl
        have hm' : ∀ (j : Nat) (e : V × V), es[j]? = some e → ∃ me : MapEntry, mes.toList[j]? = some me ∧ VR σ e.1 me.key ∧ VR σ e.2 me.val := fun j e he => by
          obtain ⟨me, a1, a2⟩ := hm j e he
          exact ⟨me, by simpa using a1, a2⟩
        cases hr : findK q es 0 with
        | none => simp [hr] at hs
        | some r =>
          obtain ⟨r', h3, h4⟩ := run_findKey (P := P) hkk hfit hv2 (by simpa using hsz) hm' hr w
          rw [hr] at hs
          have hgo : (getObj L.b).run P w = .ok (.map mes ck) w := by simp [getObj, Sem.run, hb]
          cases r with
          | none =>
            cases r' with
            | some r' => exact h4.elim
            | none =>
              injection hs with hs
              injection hs with e1 e2
              subst e1
              refine ⟨e2.symm, q_of hx' ⟨if ok then .tuple #[zv, .bool false] else zv, ?_, ?_⟩⟩
              · simp [Instr.lookup, run_underlying h1, hgo, run_checkKey hkk hfit hv2, h3, hrz]
              · cases ok
                · exact hzz
                · exact VR.t (.cons hzz (.cons (.b _) .nil))
          | some r =>
            obtain ⟨i, rv⟩ := r
            cases r' with
            | none => exact h4.elim
            | some r' =>
              obtain ⟨i', rv'⟩ := r'
              injection hs with hs
              injection hs with e1 e2
              subst e1
              refine ⟨e2.symm, q_of hx' ⟨if ok then .tuple #[rv', .bool true] else rv', ?_, ?_⟩⟩
              · simp [Instr.lookup, run_underlying h1, hgo, run_checkKey hkk hfit hv2, h3]
              · cases ok
                · exact h4.2.1
                · exact VR.t (.cons h4.2.1 (.cons (.b _) .nil))
      · cases hs
  · cases hs

theorem run_len (H : HR σ B w0 h w) {t : TypeId} {k : LenK} (h1 : match k with | .str => P.underlying t = some .string | .slice => ∃ e, P.underlying t = some (.slice e) | .map => ∃ kt e, P.underlying t = some (.map kt e) | .cap => ∃ e, P.underlying t = some (.slice e)) (hk : k ≠ .cap)
    {z : V} {xv : Value} (hv : VR σ z xv) {n : Nat} (hs : lenV h k z = some n) (ty : TypeId) : (Builtin.len_ #[t] ty #[xv]).run P w = .ok (.int .i64 n) w := by
  cases k
  · cases hv <;> simp [lenV] at hs
    subst hs
    rename_i l
    have e1 : (⟨l.toArray⟩ : ByteArray).size = l.length := by simp [ByteArray.size]
    simp [Builtin.len_, run_underlying h1, goInt, e1]
  · obtain ⟨e, h1⟩ := h1
    cases hv <;> simp [lenV] at hs <;> subst hs <;> simp [Builtin.len_, run_underlying h1, goInt]
  · obtain ⟨kt, e, h1⟩ := h1
    cases hv with
    | m0 => simp [lenV] at hs; subst hs; simp [Builtin.len_, run_underlying h1, goInt]
    | m hl =>
      rename_i id L
      simp only [lenV] at hs
      split at hs
      · rename_i es he
        injection hs with hs
        subst hs
        obtain ⟨hB, mes, ck, hb, hsz, hm⟩ := H.obj id _ L he hl
        have hgo : (getObj L.b).run P w = .ok (.map mes ck) w := by simp [getObj, Sem.run, hb]
        simp [Builtin.len_, run_underlying h1, hgo, goInt, hsz]
      · cases hs
    | _ => simp [lenV] at hs
  · exact absurd rfl hk

theorem run_ints {mx : Bool} {vs : List V} : ∀ {k : IntKind} {x : Int} {us : List Value} {v : V}, VRs σ vs us → intsMax mx k x vs = some v →
    ∃ u, (us.foldlM (if mx then Builtin.max2 else Builtin.min2) (.int k x)).run P w = .ok u w ∧ VR σ v u := by
  induction vs with
  | nil => intro k x us v hr hs; cases hr; simp [intsMax] at hs; subst hs; exact ⟨_, by simp, .i _ _⟩
  | cons y vs ih =>
    intro k x us v hr hs
    cases hr with
    | cons h1 h2 =>
      cases h1 <;> simp [intsMax] at hs
      obtain ⟨u, hu, hv⟩ := ih h2 hs
      refine ⟨u, ?_, hv⟩
      rw [← hu]
      cases mx <;> simp [Builtin.max2, Builtin.min2]

/-- A builtin that leaves memory alone. -/
theorem q_builtin {o : Oper} {c : Call} {b : Builtin} (ho : o.op = .call c) (hc : c.callee = .builtin b) {s : Sem Value} (hv : ∀ consts, builtin b c.argTypes o.type consts (c.args.map a.eval) = (do pure (.value (← s)))) {v : V}
    (h : ∃ u, s.run P w = .ok u w ∧ VR σ v u) : Q1 P o a w σ v := by
  refine q_of ?_ h
  simp only [execOp, ho, resolve, hc]
  simp [invoke, hv]

theorem q_len (hG : GlOk σ G) (H : HR σ B w0 h w) {o : Oper} {c : Call} (ho : o.op = .call c) (hc : c.callee = .builtin .len) {t : TypeId} (hts : c.argTypes.toList = [t]) {k : LenK}
    (h1 : match k with | .str => P.underlying t = some .string | .slice => ∃ e, P.underlying t = some (.slice e) | .map => ∃ kt e, P.underlying t = some (.map kt e) | .cap => ∃ e, P.underlying t = some (.slice e)) (hk : k ≠ .cap) {x' : Opd} (hx : trOs G c.args.toList = some [x']) (hf : FRo σ fr a.tmps [x'])
    {n : Nat} (hs : lenV h k (ev fr x') = some n) : Q1 P o a w σ (.i .i64 n) := by
  have hv := evs_sound hG hx hf
  have e1 : c.argTypes = #[t] := by rw [← hts]
  have e2 : c.args.map a.eval = (c.args.toList.map a.eval).toArray := by rw [← Array.toList_map]
  refine q_builtin (s := Builtin.len_ c.argTypes o.type (c.args.map a.eval)) ho hc (fun _ => rfl) ⟨.int .i64 n, ?_, .i _ _⟩
  rw [e1, e2]
  generalize c.args.toList.map a.eval = us at hv ⊢
  simp only [List.map_cons, List.map_nil] at hv
  cases hv with
  | cons hv hnil =>
    cases hnil
    exact run_len H h1 hk hv hs _

theorem q_cap (hG : GlOk σ G) {o : Oper} {c : Call} (ho : o.op = .call c) (hc : c.callee = .builtin .cap) {t e : TypeId} (hts : c.argTypes.toList = [t]) (h1 : P.underlying t = some (.slice e)) {x' : Opd} (hx : trOs G c.args.toList = some [x']) (hf : FRo σ fr a.tmps [x'])
    {n : Nat} (hs : lenV h .cap (ev fr x') = some n) : Q1 P o a w σ (.i .i64 n) := by
  have hv := evs_sound hG hx hf
  have e1 : c.argTypes = #[t] := by rw [← hts]
  have e2 : c.args.map a.eval = (c.args.toList.map a.eval).toArray := by rw [← Array.toList_map]
  refine q_builtin (s := Builtin.cap_ c.argTypes o.type (c.args.map a.eval)) ho hc (fun _ => rfl) ⟨.int .i64 n, ?_, .i _ _⟩
  rw [e1, e2]
  generalize c.args.toList.map a.eval = us at hv ⊢
  simp only [List.map_cons, List.map_nil] at hv
  cases hv with
  | cons hv hnil =>
    cases hnil
    generalize ev fr x' = z at hv hs
    cases hv with
    | sl0 z => simp [lenV] at hs; subst hs; simp [Builtin.cap_, run_underlying h1, goInt]
    | sl hl ho hn hl' hcc => simp only [lenV] at hs; have := hcc _ hs; subst this; simp [Builtin.cap_, run_underlying h1, goInt]
    | _ => simp [lenV] at hs

theorem q_mxmn (hG : GlOk σ G) {o : Oper} {c : Call} {mx : Bool} (ho : o.op = .call c) (hc : c.callee = .builtin (if mx then .max else .min)) {xs : List Opd} (hx : trOs G c.args.toList = some xs) (hf : FRo σ fr a.tmps xs)
    {k : IntKind} {x : Int} {r : List V} (he : xs.map (ev fr) = .i k x :: r) {v : V} (hs : intsMax mx k x r = some v) : Q1 P o a w σ v := by
  have hv := evs_sound hG hx hf
  rw [he] at hv
  have e2 : (c.args.map a.eval).toList = c.args.toList.map a.eval := Array.toList_map
  cases hm : c.args.toList.map a.eval with
  | nil => rw [hm] at hv; cases hv
  | cons u us =>
    rw [hm] at hv
    cases hv with
    | cons h1 h2 =>
      cases h1
      have hr := run_ints (P := P) (w := w) h2 hs
      cases mx
      · refine q_builtin (s := Builtin.min_ c.argTypes o.type (c.args.map a.eval)) ho hc (fun _ => rfl) ?_
        unfold Builtin.min_
        rw [e2, hm]
        exact hr
      · refine q_builtin (s := Builtin.max_ c.argTypes o.type (c.args.map a.eval)) ho hc (fun _ => rfl) ?_
        unfold Builtin.max_
        rw [e2, hm]
        exact hr

theorem foldl_put (off : Nat) (L : List Value) : ∀ (k : Nat) (us : List Value), off + k + L.length ≤ us.length →
    (L.zipIdx k).foldl (fun cs q => cs.setIfInBounds (off + q.2) q.1) us.toArray = (us.take (off + k) ++ L ++ us.drop (off + k + L.length)).toArray := by
  induction L with
  | nil => intro k us h; simp
  | cons c L ih =>
    intro k us h
    simp only [List.length_cons] at h
    rw [List.zipIdx_cons, List.foldl_cons]
    simp only [List.setIfInBounds_toArray]
    rw [ih (k + 1) (us.set (off + k) c) (by simp; omega)]
    congr 1
    have e1 : (us.set (off + k) c).take (off + (k + 1)) = us.take (off + k) ++ [c] := by
      rw [show off + (k + 1) = off + k + 1 by omega, List.take_succ_eq_append_getElem (by simp; omega)]
      simp [List.take_set]
      rw [List.set_eq_of_length_le (by simp; omega)]
    have e2 : (us.set (off + k) c).drop (off + (k + 1) + L.length) = us.drop (off + k + (L.length + 1)) := by
      rw [show off + (k + 1) + L.length = off + k + (L.length + 1) by omega, List.drop_set_of_lt (by omega)]
    rw [e1, e2]
    simp

theorem fill_step {place : Nat → Option (Nat × Nat)} {i off size : Nat} (hp : place i = some (off, size)) {v : V} {u : Value} (hv : VR σ v u) {cells : List V} {us : List Value} (hc : VRs σ cells us) (h1 : v.cells.length = size) (h2 : off + size ≤ cells.length)
    (rest : List (Nat × Value)) : ∃ us', Instr.fill place us.toArray ((i, u) :: rest) = Instr.fill place us'.toArray rest ∧ VRs σ (splice cells off v.cells) us' := by
  have hvc := hv.cells
  have hl1 := hvc.length
  have hl2 := hc.length
  refine ⟨us.take off ++ u.cells.toList ++ us.drop (off + u.cells.toList.length), ?_, ?_⟩
  · have hsz : u.cells.size = size := by rw [← h1, hl1]; simp
    have hcond : (decide (u.cells.size ≠ size) || decide (off + u.cells.size > us.toArray.size)) = false := by
      simp [hsz]; omega
    rw [Instr.fill, hp]
    simp only [hcond, Bool.false_eq_true, if_false]
    congr 1
    have := foldl_put off u.cells.toList 0 us (by simp; omega)
    simp only [Nat.add_zero] at this
    rw [← this, ← Array.foldl_toList, Array.toList_zipIdx]
  · unfold splice
    rw [hl1]
    exact ((hc.take off).app hvc).app (hc.drop _)

theorem fill_sound (hG : GlOk σ G) {place : Nat → Option (Nat × Nat)} (parts : List (Nat × Operand)) : ∀ {qs : List (Nat × Nat × Opd)}, trBuild G place parts = some qs → FRo σ fr a.tmps (qs.map (·.2.2)) →
    ∀ {cells : List V} {us : List Value}, VRs σ cells us → ∀ {cs : List V}, fillS cells (qs.map fun q => (q.1, q.2.1, ev fr q.2.2)) = some cs →
    ∃ us', Instr.fill place us.toArray (parts.map fun p => (p.1, a.eval p.2)) = some us'.toArray ∧ VRs σ cs us' := by
  induction parts with
  | nil =>
    intro qs ht hf cells us hc cs hs
    simp [trBuild] at ht
    subst ht
    simp [fillS] at hs
    subst hs
    exact ⟨us, by simp [Instr.fill], hc⟩
  | cons p parts ih =>
    intro qs ht hf cells us hc cs hs
    obtain ⟨i, x⟩ := p
    simp only [trBuild] at ht
    split at ht
    · rename_i off size y ys hp hy hys
      injection ht with ht
      subst ht
      simp only [List.map_cons, fillS] at hs
      split at hs
      · rename_i hcond
        obtain ⟨us', e1, e2⟩ := fill_step hp (ev_sound hG hy (hf.sub (by simp))) hc hcond.1 hcond.2 (parts.map fun p => (p.1, a.eval p.2))
        obtain ⟨us'', e3, e4⟩ := ih hys (hf.sub (by intro z hz; simp only [List.map_cons]; exact List.mem_cons_of_mem _ hz)) e2 hs
        exact ⟨us'', by rw [List.map_cons, e1, e3], e4⟩
      · cases hs
    · cases ht

theorem zeroT_some {t : TypeId} {z : List V} (h : zeroT P t = some z) : ∃ i zv, P.info? t = some i ∧ i.zero = some zv ∧ VRs σ z zv.cells.toList ∧ z.all V.one = true := by
  unfold zeroT zeroV at h
  cases hi : P.info? t with
  | none => simp [hi] at h
  | some i =>
    cases hz : i.zero with
    | none => simp [hi, hz] at h
    | some zv =>
      simp [hi, hz] at h
      obtain ⟨h1, h2⟩ := ofCells_sound σ h
      exact ⟨i, zv, rfl, hz, h1, h2⟩

theorem placesT_some {fs : List Field} : ∀ {ps : List (Nat × Nat)}, placesT P fs = some ps → fs.mapM (fun f => (P.info? f.type).map fun i => (f.offset, i.size)) = some ps := by
  induction fs with
  | nil => intro ps h; simp [placesT] at h; subst h; rfl
  | cons f fs ih =>
    intro ps h
    simp only [placesT] at h
    split at h
    · rename_i s ps' h1 h2
      injection h with h
      subst h
      obtain ⟨i, hi, rfl⟩ := szT_some h1
      simp [List.mapM_cons, hi, ih h2]
    · cases h

theorem q_build (hG : GlOk σ G) {o : Oper} {t : TypeId} {parts : Array (Nat × Operand)} (ho : o.op = .build t parts) {ao : AOp} (ht : trOp P G (.build t parts) = some ao) (hf : FRo σ fr a.tmps ao.opds) {v : V} {h' : Heap} (hs : opS ao fr h = some (v, h')) :
    h' = h ∧ Q1 P o a w σ v := by
  have key : ∀ {z : List V} {qs : List (Nat × Nat × Opd)} {us' : List Value} {cs : List V}, P.built t (parts.toList.map fun p => (p.1, a.eval p.2)) = some us'.toArray → VRs σ cs us' → Q1 P o a w σ (.g cs) := by
    intro z qs us' cs hb hr
    refine q_of (s := Instr.build t (parts.map fun p => (p.1, a.eval p.2))) (by simp [execOp, ho]) ⟨.agg us'.toArray, ?_, .g hr⟩
    exact run_build _ _ _ _ (by rw [Array.toList_map]; exact hb)
  simp only [trOp] at ht
  split at ht
  · rename_i z fs hz hu
    obtain ⟨it, zv, hi, hiz, hzr, _⟩ := zeroT_some (σ := σ) hz
    split at ht
    · rename_i ps hps
      simp only [Option.map_eq_some_iff] at ht
      obtain ⟨qs, hq, rfl⟩ := ht
      simp only [opS, Option.map_eq_some_iff] at hs
      obtain ⟨cs, hfl, hh⟩ := hs
      injection hh with e1 e2
      subst e1
      refine ⟨e2.symm, ?_⟩
      obtain ⟨us', e3, e4⟩ := fill_sound hG parts.toList hq hf hzr hfl
      refine key (z := z) (qs := qs) (us' := us') ?_ e4
      unfold Program.built
      simp only [hi, hu, hiz, placesT_some hps]
      simpa using e3
    · cases ht
  · rename_i z n e hz hu
    obtain ⟨it, zv, hi, hiz, hzr, _⟩ := zeroT_some (σ := σ) hz
    split at ht
    · rename_i s hsz
      obtain ⟨ie, hie, rfl⟩ := szT_some hsz
      simp only [Option.map_eq_some_iff] at ht
      obtain ⟨qs, hq, rfl⟩ := ht
      simp only [opS, Option.map_eq_some_iff] at hs
      obtain ⟨cs, hfl, hh⟩ := hs
      injection hh with e1 e2
      subst e1
      refine ⟨e2.symm, ?_⟩
      obtain ⟨us', e3, e4⟩ := fill_sound hG parts.toList hq hf hzr hfl
      refine key (z := z) (qs := qs) (us' := us') ?_ e4
      unfold Program.built
      simp only [hi, hu, hiz, hie]
      simpa using e3
    · cases ht
  · cases ht

theorem map1 {α β : Type} {f : α → β} {x : Option α} {y : β} (h : x.map f = some y) : ∃ z, x = some z ∧ f z = y := by simpa [Option.map_eq_some_iff] using h

theorem pair_inj {α β : Type} {a c : α} {b d : β} (h : some (a, b) = some (c, d)) : c = a ∧ d = b := by
  injection h with h; injection h with h1 h2; exact ⟨h1.symm, h2.symm⟩

theorem optmap {α β γ : Type} {x : Option α} {f : α → β} {h h' : γ} {v : β} (hs : (x.map fun r => (f r, h)) = some (v, h')) : ∃ r, x = some r ∧ v = f r ∧ h' = h := by
  cases x with
  | none => simp at hs
  | some r => simp at hs; exact ⟨r, rfl, hs.1.symm, hs.2.symm⟩

set_option maxHeartbeats 1000000 in
/-- OPERATIONS THAT LEAVE MEMORY ALONE. -/
theorem quiet_sound (hG : GlOk σ G) (H : HR σ B w0 h w) {o : Oper} {ao : AOp} (ht : trOp P G o.op = some ao) (hq : ao.quiet = true) (hf : FRo σ fr a.tmps ao.opds) {v : V} {h' : Heap} (hs : opS ao fr h = some (v, h')) :
    h' = h ∧ Q1 P o a w σ v := by
  cases hop : o.op with
  | move x =>
    rw [hop] at ht
    obtain ⟨y, hy, rfl⟩ := map1 ht
    obtain ⟨rfl, rfl⟩ := pair_inj hs
    exact ⟨rfl, q_move hG (.inl hop) hy hf⟩
  | assign x =>
    rw [hop] at ht
    obtain ⟨y, hy, rfl⟩ := map1 ht
    obtain ⟨rfl, rfl⟩ := pair_inj hs
    exact ⟨rfl, q_move hG (.inr hop) hy hf⟩
  | pick c x y =>
    rw [hop] at ht
    simp only [trOp] at ht
    split at ht
    · rename_i c' x' y' h1 h2 h3
      injection ht with ht; subst ht
      simp only [opS] at hs
      split at hs
      · rename_i hb
        obtain ⟨rfl, rfl⟩ := pair_inj hs
        exact ⟨rfl, q_pick (b := true) hG hop h1 h2 h3 hf hb⟩
      · rename_i hb
        obtain ⟨rfl, rfl⟩ := pair_inj hs
        exact ⟨rfl, q_pick (b := false) hG hop h1 h2 h3 hf hb⟩
      · cases hs
    · cases ht
  | alloc t =>
    rw [hop] at ht
    simp only [trOp] at ht
    split at ht
    · obtain ⟨z, _, rfl⟩ := map1 ht; simp [AOp.quiet, AOp.kd] at hq
    · cases ht
  | box t x => rw [hop] at ht; obtain ⟨z, _, rfl⟩ := map1 ht; simp [AOp.quiet, AOp.kd] at hq
  | build t ps => rw [hop] at ht; exact q_build hG hop ht hf hs
  | buildSlice t n ps =>
    rw [hop] at ht
    simp only [trOp] at ht
    (repeat' split at ht) <;> first | (injection ht with ht; subst ht; simp [AOp.quiet, AOp.kd] at hq; done) | cases ht
  | load t x => rw [hop] at ht; exact q_load hG H hop ht hf hs
  | store t x y =>
    rw [hop] at ht
    simp only [trOp] at ht
    split at ht
    · injection ht with ht; subst ht; simp [AOp.quiet, AOp.kd] at hq
    · cases ht
  | nilCheck x =>
    rw [hop] at ht
    obtain ⟨y, hy, rfl⟩ := map1 ht
    exact q_nilck hG hop hy hf hs
  | binOp op t x y yT =>
    rw [hop] at ht
    simp only [trOp] at ht
    split at ht
    · rename_i x' y' h1 h2
      have gbin : ∀ {op'}, op' = op → opS (.bin op' x' y') fr h = some (v, h') → FRo σ fr a.tmps [x', y'] → h' = h ∧ Q1 P o a w σ v := by
        intro op' e hs hf
        subst e
        obtain ⟨r, hr, rfl, rfl⟩ := optmap (f := fun r => r) hs
        exact ⟨rfl, q_bin hG hop h1 h2 hf hr⟩
      have geq : ∀ {neg : Bool} {k : EqK}, op = (if neg then .neq else .eql) → eqKind P t = some (some k) → opS (.eq neg (eqC k x y) x' y') fr h = some (v, h') → FRo σ fr a.tmps [x', y'] → h' = h ∧ Q1 P o a w σ v := by
        intro neg k e hk hs hf
        obtain ⟨r, hr, rfl, rfl⟩ := optmap hs
        exact ⟨rfl, q_eqC hG e hop hk h1 h2 hf hr⟩
      have gst : ∀ {neg : Bool} {ks : List KeyK}, op = (if neg then .neq else .eql) → structK P t = some ks → opS (.eqG neg ks x' y') fr h = some (v, h') → FRo σ fr a.tmps [x', y'] → h' = h ∧ Q1 P o a w σ v := by
        intro neg ks e hk hs hf
        obtain ⟨r, hr, rfl, rfl⟩ := optmap hs
        exact ⟨rfl, q_eqG hG e hop hk h1 h2 hf hr⟩
      split at ht
      · split at ht
        · injection ht with ht; subst ht; exact gbin rfl hs hf
        · injection ht with ht; subst ht; exact geq (neg := false) rfl (by assumption) hs hf
        · obtain ⟨ks, hk, rfl⟩ := map1 ht; exact gst (neg := false) rfl hk hs hf
      · split at ht
        · injection ht with ht; subst ht; exact gbin rfl hs hf
        · injection ht with ht; subst ht; exact geq (neg := true) rfl (by assumption) hs hf
        · obtain ⟨ks, hk, rfl⟩ := map1 ht; exact gst (neg := true) rfl hk hs hf
      · injection ht with ht; subst ht; exact gbin rfl hs hf
    · cases ht
  | unOp op t x =>
    rw [hop] at ht
    obtain ⟨y, hy, rfl⟩ := map1 ht
    obtain ⟨r, hr, rfl, rfl⟩ := optmap (f := fun r => r) hs
    exact ⟨rfl, q_un hG hop hy hf hr⟩
  | convert src dst x =>
    rw [hop] at ht
    simp only [trOp] at ht
    split at ht
    · rename_i d k x' h1 h2 h3
      injection ht with ht; subst ht
      simp only [opS] at hs
      split at hs
      · obtain ⟨rfl, rfl⟩ := pair_inj hs
        exact ⟨rfl, q_convI hG hop h1 h2 h3 hf (by assumption)⟩
      · cases hs
    · rename_i x' h1 h2 h3
      injection ht with ht; subst ht
      simp only [opS] at hs
      split at hs
      · obtain ⟨rfl, rfl⟩ := pair_inj hs
        exact ⟨rfl, q_convS hG hop h1 h2 h3 hf (by assumption)⟩
      · cases hs
    · rename_i e x' h1 h2 h3
      split at ht
      · injection ht with ht; subst ht
        exact q_convBS hG H hop h1 h2 (by assumption) h3 hf hs
      · cases ht
    · split at ht
      · injection ht with ht; subst ht; simp [AOp.quiet, AOp.kd] at hq
      · cases ht
    · cases ht
  | makeInterface t x =>
    rw [hop] at ht
    simp only [trOp] at ht
    split at ht
    · cases ht
    · rename_i d x' hne h1 h2
      injection ht with ht; subst ht
      obtain ⟨rfl, rfl⟩ := pair_inj hs
      exact ⟨rfl, q_mkif hG hop h1 (fun m e => hne m e) h2 hf⟩
    · cases ht
  | makeFunc fn first cs =>
    rw [hop] at ht
    cases fn with
    | func f =>
      simp only [trOp] at ht
      split at ht
      · obtain ⟨ys, hy, rfl⟩ := map1 ht
        obtain ⟨rfl, rfl⟩ := pair_inj hs
        exact ⟨rfl, q_mkfn hG (by assumption) hop hy hf⟩
      · cases ht
    | _ => simp [trOp] at ht
  | makeMap t r => rw [hop] at ht; cases r <;> simp [trOp] at ht; subst ht; simp [AOp.quiet, AOp.kd] at hq
  | makeSlice t l c =>
    rw [hop] at ht
    simp only [trOp] at ht
    (repeat' split at ht) <;> first | (injection ht with ht; subst ht; simp [AOp.quiet, AOp.kd] at hq; done) | cases ht
  | slice t x lo hi mx =>
    rw [hop] at ht
    simp only [trOp] at ht
    split at ht
    · rename_i x' lo' hi' mx' h1 h2 h3 h4
      split at ht
      · rename_i hu
        split at ht
        · cases ht
        · rename_i hm
          injection ht with ht; subst ht
          have : mx = none := by cases mx' with | none => exact trOo_none h4 | some q => simp at hm
          subst this
          simp only [opS] at hs
          split at hs
          · split at hs
            · split at hs
              · rename_i hc
                obtain ⟨rfl, rfl⟩ := pair_inj hs
                exact ⟨rfl, q_sliceS hG hop hu h1 h2 h3 hf (by assumption) (by assumption) (by assumption) hc.1 hc.2⟩
              · cases hs
            · cases hs
          · cases hs
      · obtain ⟨sz, hz, rfl⟩ := map1 ht
        exact q_sliceL hG hop (by assumption) hz h1 h2 h3 h4 hf hs
      · rename_i n e hu
        split at ht
        · cases ht
        · rename_i hm
          have : mx = none := by cases mx' with | none => exact trOo_none h4 | some q => simp at hm
          subst this
          obtain ⟨sz, hz, rfl⟩ := map1 ht
          exact q_sliceA hG H hop hu hz h1 h2 h3 hf hs
      · cases ht
    · cases ht
  | fieldAddr t x i =>
    rw [hop] at ht
    simp only [trOp] at ht
    split at ht
    · rename_i fs x' hu hx
      split at ht
      · split at ht
        · split at ht
          · injection ht with ht; subst ht
            simp only [opS] at hs
            split at hs
            · obtain ⟨rfl, rfl⟩ := pair_inj hs
              exact ⟨rfl, q_faddr hG hop hu (by assumption) (by assumption) (by assumption) hx hf (by assumption)⟩
            · cases hs
          · cases ht
        · cases ht
      · cases ht
    · cases ht
  | field t x i =>
    rw [hop] at ht
    simp only [trOp] at ht
    split at ht
    · rename_i fs x' hu hx
      split at ht
      · split at ht
        · injection ht with ht; subst ht
          simp only [opS] at hs
          split at hs
          · obtain ⟨r, hr, rfl, rfl⟩ := optmap (f := fun r => r) hs
            exact ⟨rfl, q_field hG hop hu (by assumption) (by assumption) (by assumption) hx hf (by assumption) hr⟩
          · cases hs
        · cases ht
      · cases ht
    · cases ht
  | indexAddr t x i =>
    rw [hop] at ht
    simp only [trOp] at ht
    split at ht
    · rename_i n e x' i' hu hx hi
      obtain ⟨sz, hz, rfl⟩ := map1 ht
      simp only [opS] at hs
      split at hs
      · split at hs
        · obtain ⟨rfl, rfl⟩ := pair_inj hs
          exact ⟨rfl, q_iaddrA hG hop hu hz hx hi hf (by assumption) (by assumption) (by assumption)⟩
        · cases hs
      · cases hs
    · rename_i e x' i' hu hx hi
      obtain ⟨sz, hz, rfl⟩ := map1 ht
      simp only [opS] at hs
      split at hs
      · split at hs
        · rename_i hc
          obtain ⟨hc1, hc2⟩ := hc
          subst hc2
          obtain ⟨rfl, rfl⟩ := pair_inj hs
          exact ⟨rfl, q_iaddrL hG hop hu hz hx hi hf (by assumption) (by assumption) hc1⟩
        · cases hs
      · cases hs
    · cases ht
  | index t x i =>
    rw [hop] at ht
    simp only [trOp] at ht
    split at ht
    · rename_i n e x' i' hu hx hi
      split at ht
      · injection ht with ht; subst ht
        simp only [opS] at hs
        split at hs
        · split at hs
          · obtain ⟨r, hr, rfl, rfl⟩ := optmap (f := fun r => r) hs
            exact ⟨rfl, q_indexA hG hop hu (by assumption) (by assumption) hx hi hf (by assumption) (by assumption) (by assumption) hr⟩
          · cases hs
        · cases hs
      · cases ht
    · rename_i x' i' hu hx hi
      injection ht with ht; subst ht
      simp only [opS] at hs
      split at hs
      · obtain ⟨r, hr, rfl, rfl⟩ := optmap hs
        exact ⟨rfl, q_indexS hG hop hu hx hi hf (by assumption) (by assumption) hr⟩
      · cases hs
    · cases ht
  | lookup t x k ok =>
    rw [hop] at ht
    simp only [trOp] at ht
    split at ht
    · rename_i kt e x' k' hu hx hk
      split at ht
      · rename_i z kk hz hkk
        injection ht with ht; subst ht
        cases hzv : zeroV P e with
        | none => simp [hzv] at hz
        | some zv => exact q_lookup hG H hop hu hzv (by simpa [hzv] using hz) hkk hx hk hf hs
      · cases ht
    · cases ht
  | mapUpdate t m k x =>
    rw [hop] at ht
    simp only [trOp] at ht
    split at ht
    · obtain ⟨kk, hkk, rfl⟩ := map1 ht; simp [AOp.quiet, AOp.kd] at hq
    · cases ht
  | extract x i =>
    rw [hop] at ht
    obtain ⟨y, hy, rfl⟩ := map1 ht
    simp only [opS] at hs
    split at hs
    · obtain ⟨r, hr, rfl, rfl⟩ := optmap (f := fun r => r) hs
      exact ⟨rfl, q_extract hG hop hy hf (by assumption) hr⟩
    · cases hs
  | call c =>
    rw [hop] at ht
    simp only [trOp] at ht
    split at ht
    · rename_i b hc
      split at ht
      · rename_i xs hx
        unfold trBuiltin at ht
        split at ht
        · (repeat' split at ht) <;> first | (injection ht with ht; subst ht; simp [AOp.quiet, AOp.kd] at hq; done) | cases ht
        · split at ht
          · rename_i t x' hts
            have gl : ∀ {k : LenK}, (match k with | .str => P.underlying t = some .string | .slice => ∃ e, P.underlying t = some (.slice e) | .map => ∃ kt e, P.underlying t = some (.map kt e) | .cap => ∃ e, P.underlying t = some (.slice e)) → k ≠ .cap → opS (.len k x') fr h = some (v, h') → FRo σ fr a.tmps [x'] → h' = h ∧ Q1 P o a w σ v := by
              intro k hk hkc hs hf
              obtain ⟨n, hn, rfl, rfl⟩ := optmap hs
              exact ⟨rfl, q_len hG H hop hc hts hk hkc hx hf hn⟩
            split at ht
            · injection ht with ht; subst ht; exact gl (k := .str) (by assumption) (by simp) hs hf
            · injection ht with ht; subst ht; exact gl (k := .slice) ⟨_, by assumption⟩ (by simp) hs hf
            · injection ht with ht; subst ht; exact gl (k := .map) ⟨_, _, by assumption⟩ (by simp) hs hf
            · cases ht
          · cases ht
        · split at ht
          · split at ht
            · obtain ⟨kk, hkk, rfl⟩ := map1 ht; simp [AOp.quiet, AOp.kd] at hq
            · cases ht
          · cases ht
        · split at ht
          · rename_i t x' hts
            split at ht
            · injection ht with ht; subst ht
              obtain ⟨n, hn, rfl, rfl⟩ := optmap hs
              exact ⟨rfl, q_cap hG hop hc hts (by assumption) hx hf hn⟩
            · cases ht
          · cases ht
        · injection ht with ht; subst ht; cases hs
        · split at ht
          · split at ht
            · obtain ⟨sz, hsz, rfl⟩ := map1 ht; simp [AOp.quiet, AOp.kd] at hq
            · cases ht
          · cases ht
        · split at ht
          · split at ht
            · split at ht
              · split at ht
                · injection ht with ht; subst ht; simp [AOp.quiet, AOp.kd] at hq
                · cases ht
              · cases ht
            · cases ht
          · cases ht
        · injection ht with ht; subst ht
          simp only [opS] at hs
          split at hs
          · obtain ⟨r, hr, rfl, rfl⟩ := optmap (f := fun r => r) hs
            exact ⟨rfl, q_mxmn (mx := true) hG hop hc hx hf (by assumption) hr⟩
          · cases hs
        · injection ht with ht; subst ht
          simp only [opS] at hs
          split at hs
          · obtain ⟨r, hr, rfl, rfl⟩ := optmap (f := fun r => r) hs
            exact ⟨rfl, q_mxmn (mx := false) hG hop hc hx hf (by assumption) hr⟩
          · cases hs
        · cases ht
      · cases ht
    · cases ht
  | range t x =>
    rw [hop] at ht
    simp only [trOp] at ht
    split at ht
    · injection ht with ht; subst ht; simp [AOp.quiet, AOp.kd] at hq
    · cases ht
  | next x s =>
    rw [hop] at ht
    simp only [trOp] at ht
    split at ht
    · obtain ⟨y, _, rfl⟩ := map1 ht; simp [AOp.quiet, AOp.kd] at hq
    · cases ht
  | panic x => rw [hop] at ht; injection ht with ht; subst ht; cases hs
  | _ => rw [hop] at ht; simp [trOp] at ht
end
end Am
end Go.Proofs.YtcndgnddipbbgaaGreat
