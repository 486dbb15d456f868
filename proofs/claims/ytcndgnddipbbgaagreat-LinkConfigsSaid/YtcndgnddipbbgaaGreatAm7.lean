/-
  THE ABSTRACT MACHINE, part 7: a region whose order is drawn: whatever order, the machine's answer.
  Conditions: none (lemmas over any program that mixes its orders).
-/
import Derived.Test.YtcndgnddipbbgaaGreatAm6
import Derived.Orders
set_option linter.unusedVariables false
set_option linter.unusedSimpArgs false
namespace Go.Proofs.YtcndgnddipbbgaaGreat
namespace Am
open Go.RowKit

theorem allLt_iff {n : Nat} {p : Nat → Bool} (h : allLt n p = true) {i : Nat} (hi : i < n) : p i = true := by
  unfold allLt at h
  rw [List.all_eq_true] at h
  exact h i (List.mem_range.2 hi)

theorem same1_eq {a b : V} (h : same1 a b = true) : a = b := by
  cases a <;> cases b <;> simp [same1] at h <;> first | rfl | (subst h; rfl) | (obtain ⟨h1, h2⟩ := h; subst h1; subst h2; rfl) | (obtain ⟨⟨⟨h1, h2⟩, h3⟩, h4⟩ := h; subst h1; subst h2; subst h3; subst h4; rfl)
theorem sameL_eq : ∀ {a b : List V}, sameL a b = true → a = b := by
  intro a
  induction a with
  | nil => intro b h; cases b <;> simp [sameL] at h; rfl
  | cons x a ih =>
    intro b h
    cases b with
    | nil => simp [sameL] at h
    | cons y b =>
      simp only [sameL, Bool.and_eq_true] at h
      rw [same1_eq h.1, ih h.2]
theorem same_eq {a b : V} (h : same a b = true) : a = b := by
  unfold same at h
  split at h
  · rw [sameL_eq h]
  · rw [sameL_eq h]
  · exact same1_eq h
theorem sameP_eq : ∀ {a b : List (V × V)}, sameP a b = true → a = b := by
  intro a
  induction a with
  | nil => intro b h; cases b <;> simp [sameP] at h; rfl
  | cons x a ih =>
    intro b h
    cases b with
    | nil => simp [sameP] at h
    | cons y b =>
      simp only [sameP, Bool.and_eq_true] at h
      rw [ih h.2, Prod.ext (same1_eq h.1.1) (same1_eq h.1.2)]
theorem sameObj_eq {a b : Option Obj} (h : sameObj a b = true) : a = b := by
  unfold sameObj at h
  split at h
  · simp only [Bool.and_eq_true, beq_iff_eq] at h; rw [sameL_eq h.1.1, h.1.2, h.2]
  · rw [sameP_eq h]
  · simp only [Bool.and_eq_true, beq_iff_eq] at h; rw [h.1, h.2]
  · cases h
theorem sameO_eq {a b : Option V} (h : sameO a b = true) : a = b ∧ ∃ v, a = some v := by
  unfold sameO at h
  split at h
  · rename_i x y; rw [same_eq h]; exact ⟨rfl, _, rfl⟩
  · cases h

/-! ### A run, step by step -/
structure Tr (E : Env) (ops : List COp) (frs : Nat → List V) (hs : Nat → Heap) (vs : Nat → V) : Prop where
  step : ∀ k, k < ops.length → stepS E (opAt ops k) (frs k) (hs k) = some (vs k, hs (k + 1))
  next : ∀ k, k < ops.length → frs (k + 1) = put (frs k) (opAt ops k).dst (vs k)

theorem tr_of (E : Env) : ∀ (ops : List COp) (fr : List V) (h : Heap) {fr' : List V} {h' : Heap}, runOps E ops fr h = some (fr', h') →
    ∃ frs hs vs, Tr E ops frs hs vs ∧ frs 0 = fr ∧ hs 0 = h ∧ frs ops.length = fr' ∧ hs ops.length = h' ∧ ∀ tr, trace E ops fr h = some tr → ∀ k, k ≤ ops.length → tr[k]? = some (frs k, hs k) := by
  intro ops
  induction ops with
  | nil =>
    intro fr h fr' h' hr
    simp [runOps] at hr
    obtain ⟨rfl, rfl⟩ := hr
    exact ⟨fun _ => fr, fun _ => h, fun _ => un, ⟨fun k hk => by simp at hk, fun k hk => by simp at hk⟩, rfl, rfl, rfl, rfl, fun tr ht k hk => by
      simp [trace] at ht; subst ht; simp at hk; subst hk; rfl⟩
  | cons o ops ih =>
    intro fr h fr' h' hr
    simp only [runOps] at hr
    split at hr
    · rename_i v h1 hst
      obtain ⟨frs, hs, vs, ht, e1, e2, e3, e4, e5⟩ := ih _ _ hr
      refine ⟨fun k => match k with | 0 => fr | k + 1 => frs k, fun k => match k with | 0 => h | k + 1 => hs k, fun k => match k with | 0 => v | k + 1 => vs k, ⟨fun k hk => ?_, fun k hk => ?_⟩, rfl, rfl, e3, e4, fun tr htr k hk => ?_⟩
      · cases k with
        | zero => simpa [opAt, e2] using hst
        | succ k => simpa [opAt] using ht.step k (by simpa using hk)
      · cases k with
        | zero => simp [opAt, e1]
        | succ k => simpa [opAt] using ht.next k (by simpa using hk)
      · simp only [trace, hst, Option.map_eq_some_iff] at htr
        obtain ⟨tr', h2, rfl⟩ := htr
        cases k with
        | zero => rfl
        | succ k => simpa using e5 tr' h2 k (by simpa using hk)
    · cases hr

section
variable {E : Env} {ops : List COp} {frs : Nat → List V} {hs : Nat → Heap} {vs : Nat → V}

theorem kd_alloc {o : COp} (h : isA o = true) : ∃ q, o.act = .op q ∧ q.kd = .alloc := by
  unfold isA COp.kd at h
  cases ha : o.act with
  | op q => rw [ha] at h; simp only at h; cases hq : q.kd <;> rw [hq] at h <;> first | exact ⟨q, rfl, hq⟩ | (simp at h; done)
  | callf f xs => rw [ha] at h; cases h
  | callv x xs => rw [ha] at h; cases h
theorem kd_quiet {o : COp} (h : isA o = false) (h2 : isW o = false) : ∃ q, o.act = .op q ∧ q.quiet = true := by
  unfold isA COp.kd at h
  unfold isW COp.kd at h2
  cases ha : o.act with
  | op q => rw [ha] at h h2; simp only at h h2; cases hq : q.kd <;> rw [hq] at h h2 <;> first | (simp at h; done) | (simp at h2; done) | (refine ⟨q, rfl, ?_⟩; simp [AOp.quiet, hq]; done)
  | callf f xs => rw [ha] at h2; cases h2
  | callv x xs => rw [ha] at h2; cases h2
theorem notW_of_A {o : COp} (h : isA o = true) : isW o = false := by
  unfold isA at h; unfold isW; cases hk : o.kd <;> rw [hk] at h <;> first | rfl | (simp at h; done)

/-- Without a writer between, a heap only grows. -/
theorem grow1 (T : Tr E ops frs hs vs) {k : Nat} (hk : k < ops.length) (hw : isW (opAt ops k) = false) : ∃ os, hs (k + 1) = hs k ++ os := by
  have hst := T.step k hk
  unfold stepS at hst
  split at hst
  · cases ha : isA (opAt ops k) with
    | true =>
      obtain ⟨q, hq, hkd⟩ := kd_alloc ha
      rw [hq] at hst
      obtain ⟨ob, mk, _, _, he⟩ := allocS_of hkd hst
      exact ⟨[ob], he⟩
    | false =>
      obtain ⟨q, hq, hqq⟩ := kd_quiet ha hw
      rw [hq] at hst
      exact ⟨[], by rw [opS_quiet hqq hst]; simp⟩
  · obtain ⟨_, e⟩ := pair_inj hst
    exact ⟨[], by rw [e]; simp⟩
theorem growN (T : Tr E ops frs hs vs) {c : Nat} : ∀ (d : Nat), c + d ≤ ops.length → (∀ j, c ≤ j → j < c + d → isW (opAt ops j) = false) → ∃ os, hs (c + d) = hs c ++ os := by
  intro d
  induction d with
  | zero => intro _ _; exact ⟨[], by simp⟩
  | succ d ih =>
    intro hd hw
    obtain ⟨os, h1⟩ := ih (by omega) (fun j a b => hw j a (by omega))
    obtain ⟨os2, h2⟩ := grow1 T (k := c + d) (by omega) (hw _ (by omega) (by omega))
    exact ⟨os ++ os2, by rw [show c + (d + 1) = c + d + 1 by omega, h2, h1]; simp⟩
theorem grow (T : Tr E ops frs hs vs) {c e : Nat} (hce : c ≤ e) (he : e ≤ ops.length) (hw : ∀ j, c ≤ j → j < e → isW (opAt ops j) = false) : ∃ os, hs e = hs c ++ os := by
  have := growN T (c := c) (e - c) (by omega) (fun j a b => hw j a (by omega))
  rwa [show c + (e - c) = e by omega] at this
theorem lens (hE : EnvLen E) (T : Tr E ops frs hs vs) {c : Nat} : ∀ (d : Nat), c + d ≤ ops.length → (hs c).length ≤ (hs (c + d)).length := by
  intro d
  induction d with
  | zero => intro _; exact Nat.le_refl _
  | succ d ih => intro hd; exact Nat.le_trans (ih (by omega)) (stepS_len hE (T.step (c + d) (by omega)))
theorem lensLe (hE : EnvLen E) (T : Tr E ops frs hs vs) {c e : Nat} (hce : c ≤ e) (he : e ≤ ops.length) : (hs c).length ≤ (hs e).length := by
  have := lens hE T (c := c) (e - c) (by omega)
  rwa [show c + (e - c) = e by omega] at this

/-! ### Slots -/
/-- What a slot holds behind the steps of a set. -/
def slotOf (ops : List COp) (vs : Nat → V) (fr0 : List V) (D : Nat → Bool) : Nat → Nat → Option V
  | 0, t => fr0[t]?
  | m + 1, t => if D m = true ∧ (opAt ops m).dst = some t then fr0[t]?.map (fun _ => vs m) else slotOf ops vs fr0 D m t

theorem slot_isSome (fr0 : List V) (D : Nat → Bool) (t : Nat) : ∀ m, (slotOf ops vs fr0 D m t).isSome = (fr0[t]?).isSome := by
  intro m
  induction m with
  | zero => rfl
  | succ m ih =>
    simp only [slotOf]
    split
    · cases fr0[t]? <;> rfl
    · exact ih

theorem slot_frs (T : Tr E ops frs hs vs) (t : Nat) : ∀ m, m ≤ ops.length → (frs m)[t]? = slotOf ops vs (frs 0) (fun _ => true) m t := by
  intro m
  induction m with
  | zero => intro _; rfl
  | succ m ih =>
    intro hm
    rw [T.next m (by omega)]
    simp only [slotOf, true_and]
    have hi := ih (by omega)
    have hso := slot_isSome (ops := ops) (vs := vs) (frs 0) (fun _ => true) t m
    cases hd : (opAt ops m).dst with
    | none => simp [put, hi]
    | some d =>
      simp only [put, put_get, Option.some.injEq]
      by_cases e : d = t
      · rw [if_pos e, if_pos e, hi]
        cases h1 : slotOf ops vs (frs 0) (fun _ => true) m t <;> cases h2 : (frs 0)[t]? <;> rw [h1, h2] at hso <;> first | rfl | cases hso
      · rw [if_neg e, if_neg e, hi]

/-- Two sets that agree on a slot's writers. -/
theorem slot_congr (fr0 : List V) {D D' : Nat → Bool} {t : Nat} : ∀ m, (∀ d, d < m → (opAt ops d).dst = some t → D d = D' d) → slotOf ops vs fr0 D m t = slotOf ops vs fr0 D' m t := by
  intro m
  induction m with
  | zero => intro _; rfl
  | succ m ih =>
    intro h
    simp only [slotOf]
    rw [ih (fun d hd => h d (by omega))]
    by_cases e : (opAt ops m).dst = some t
    · rw [h m (by omega) e]
    · simp [e]
theorem slot_cut (fr0 : List V) {D : Nat → Bool} {t k : Nat} : ∀ m, k ≤ m → (∀ d, k ≤ d → d < m → (opAt ops d).dst = some t → D d = false) → slotOf ops vs fr0 D m t = slotOf ops vs fr0 D k t := by
  intro m
  induction m with
  | zero => intro hk _; rw [show k = 0 by omega]
  | succ m ih =>
    intro hk h
    by_cases e : k = m + 1
    · rw [e]
    · simp only [slotOf]
      rw [if_neg (fun c => by have := h m (by omega) (by omega) c.2; rw [this] at c; exact Bool.false_ne_true c.1)]
      exact ih (by omega) (fun d a b => h d a (by omega))
/-- A slot's last writer. -/
theorem slot_last (fr0 : List V) {D : Nat → Bool} {t k : Nat} (hd : (opAt ops k).dst = some t) (hD : D k = true) : ∀ m, k < m → (∀ d, k < d → d < m → (opAt ops d).dst = some t → D d = false) → slotOf ops vs fr0 D m t = fr0[t]?.map (fun _ => vs k) := by
  intro m hk h
  rw [slot_cut fr0 (k := k + 1) m (by omega) (fun d a b => h d (by omega) b)]
  simp only [slotOf]
  rw [if_pos ⟨hD, hd⟩]

/-! ### The heap behind the steps of a set -/
def isWA (o : COp) : Bool := isW o || isA o
def cix (ops : List COp) (D : Nat → Bool) : Nat → Nat
  | 0 => 0
  | m + 1 => if D m = true ∧ isWA (opAt ops m) = true then m + 1 else cix ops D m
theorem cix_le (D : Nat → Bool) : ∀ m, cix ops D m ≤ m := by
  intro m
  induction m with
  | zero => exact Nat.le_refl _
  | succ m ih => simp only [cix]; split <;> omega
theorem cix_not (D : Nat → Bool) : ∀ m j, cix ops D m ≤ j → j < m → isWA (opAt ops j) = true → D j = false := by
  intro m
  induction m with
  | zero => intro j _ h; omega
  | succ m ih =>
    intro j h1 h2 h3
    simp only [cix] at h1
    split at h1
    · omega
    · rename_i hn
      by_cases e : j = m
      · subst e
        cases hD : D j with
        | false => rfl
        | true => exact absurd ⟨hD, h3⟩ hn
      · exact ih j h1 (by omega) h3
theorem cix_at (D : Nat → Bool) : ∀ m, cix ops D m = 0 ∨ ∃ j, cix ops D m = j + 1 ∧ j < m ∧ D j = true ∧ isWA (opAt ops j) = true := by
  intro m
  induction m with
  | zero => exact .inl rfl
  | succ m ih =>
    simp only [cix]
    split
    · rename_i h; exact .inr ⟨m, rfl, by omega, h.1, h.2⟩
    · rcases ih with h | ⟨j, h1, h2, h3⟩
      · exact .inl h
      · exact .inr ⟨j, h1, by omega, h3⟩
theorem cix_add_no {D D' : Nat → Bool} : ∀ m, (∀ j, j < m → isWA (opAt ops j) = true → D' j = D j) → cix ops D' m = cix ops D m := by
  intro m
  induction m with
  | zero => intro _; rfl
  | succ m ih =>
    intro h
    simp only [cix]
    rw [ih (fun j hj => h j (by omega))]
    by_cases e : isWA (opAt ops m) = true
    · rw [h m (by omega) e]
    · simp [e]
theorem cix_new {D D' : Nat → Bool} {k : Nat} (hk : isWA (opAt ops k) = true) (hD' : ∀ j, D' j = (D j || decide (j = k))) : ∀ m, k < m → cix ops D' m = max (cix ops D m) (k + 1) := by
  intro m
  induction m with
  | zero => intro h; omega
  | succ m ih =>
    intro hm
    simp only [cix]
    by_cases e : m = k
    · subst e
      rw [if_pos ⟨by simp [hD'], hk⟩]
      have h1 := cix_le (ops := ops) D m
      split <;> omega
    · have hmk : D' m = D m := by simp [hD', e]
      rw [hmk, ih (by omega)]
      split
      · omega
      · rfl

/-! ### Reads and what is made -/
theorem getCells_more {h : Heap} {id off n : Nat} {cs : List V} (hg : getCells h id off n = some cs) (os : List Obj) : getCells (h ++ os) id off n = some cs := by
  obtain ⟨vs, ro, ty, hh, hle, rfl⟩ := getCells_some hg
  have hlt := (List.getElem?_eq_some_iff.1 hh).1
  unfold getCells
  rw [List.getElem?_append_left hlt, hh]
  simp [hle]
theorem get_more {h : Heap} {id : Nat} {o : Obj} (hh : h[id]? = some o) (os : List Obj) : (h ++ os)[id]? = some o := by
  rw [List.getElem?_append_left (List.getElem?_eq_some_iff.1 hh).1, hh]
theorem lenV_more {h : Heap} {k : LenK} {z : V} {n : Nat} (hs : lenV h k z = some n) (os : List Obj) : lenV (h ++ os) k z = some n := by
  cases k <;> cases z <;> simp only [lenV] at hs ⊢ <;> (try exact hs)
  rename_i r
  cases r with
  | none => exact hs
  | some id =>
    simp only at hs ⊢
    split at hs
    · rename_i es he; rw [get_more he os]; exact hs
    · cases hs
theorem opS_more {q : AOp} (hq : q.quiet = true) {fr : List V} {h : Heap} {v : V} (hs : opS q fr h = some (v, h)) (os : List Obj) : opS q fr (h ++ os) = some (v, h ++ os) := by
  cases q
  case load agg n x =>
    simp only [opS] at hs ⊢
    split at hs
    · split at hs
      · rename_i cs hg
        simp only [getCells_more hg os]
        split at hs
        · rename_i ha; obtain ⟨rfl, _⟩ := pair_inj hs; rw [if_pos ha]
        · rename_i ha; obtain ⟨z, hz, hh⟩ := map1 hs; injection hh with e1 _; subst e1; rw [if_neg ha, hz]; rfl
      · cases hs
    · cases hs
  case convBS x =>
    simp only [opS] at hs ⊢
    split at hs
    · obtain ⟨rfl, _⟩ := pair_inj hs; rfl
    · obtain ⟨l, hl, hh⟩ := map1 hs
      injection hh with e1 _
      subst e1
      simp only [Option.bind_eq_some_iff] at hl
      obtain ⟨cs, hg, hb⟩ := hl
      simp [getCells_more hg os, hb]
    · cases hs
  case sliceL sz x lo hi mx =>
    simp only [opS] at hs ⊢
    split at hs
    · split at hs
      · split at hs
        · rename_i hc
          obtain ⟨rfl, _⟩ := pair_inj hs
          rw [if_pos hc]
        · cases hs
      · cases hs
    · cases hs
  case sliceA n sz x lo hi =>
    simp only [opS] at hs ⊢
    split at hs
    · split at hs
      · split at hs
        · rename_i hc
          obtain ⟨rfl, _⟩ := pair_inj hs
          obtain ⟨cs, hg⟩ := Option.isSome_iff_exists.1 hc.2.2
          rw [if_pos ⟨hc.1, hc.2.1, by rw [getCells_more hg os]; rfl⟩]
        · cases hs
      · cases hs
    · cases hs
  case lookup kk z x k ok =>
    simp only [opS] at hs ⊢
    split at hs
    · cases hs
    rename_i hfit
    rw [if_neg hfit]
    split at hs
    · obtain ⟨rfl, _⟩ := pair_inj hs; rfl
    · split at hs
      · rename_i es he
        simp only [get_more he os]
        split at hs
        · obtain ⟨rfl, _⟩ := pair_inj hs; rfl
        · obtain ⟨rfl, _⟩ := pair_inj hs; rfl
        · cases hs
      · cases hs
    · cases hs
  case len k x =>
    simp only [opS] at hs ⊢
    obtain ⟨n, hn, hh⟩ := map1 hs
    injection hh with e1 _
    subst e1
    rw [lenV_more hn os]
    rfl
  all_goals (simp [AOp.quiet, AOp.kd] at hq)
  all_goals (simp only [opS] at hs ⊢)
  all_goals (
    (repeat' split at hs) <;>
    first
      | (cases hs; done)
      | (obtain ⟨rfl, _⟩ := pair_inj hs; simp [*]; done)
      | (obtain ⟨z, hz, hh⟩ := map1 hs; injection hh with e1 _; subst e1; simp [*]; done))

/-- An operation that looks into no heap. -/
theorem opS_pure {q : AOp} (hq : q.kd = .pure) {fr : List V} {h : Heap} {v : V} (hs : opS q fr h = some (v, h)) (h2 : Heap) : opS q fr h2 = some (v, h2) := by
  cases q
  case sliceL sz x lo hi mx =>
    simp only [opS] at hs ⊢
    split at hs
    · split at hs
      · split at hs
        · rename_i hc
          obtain ⟨rfl, _⟩ := pair_inj hs
          rw [if_pos hc]
        · cases hs
      · cases hs
    · cases hs
  case len k x =>
    cases k
    · simp only [opS] at hs ⊢
      obtain ⟨n, hn, hh⟩ := map1 hs
      injection hh with e1 _
      subst e1
      generalize ev fr x = z at hn ⊢
      cases z <;> simp [lenV] at hn ⊢
      rw [hn]
    · simp only [opS] at hs ⊢
      obtain ⟨n, hn, hh⟩ := map1 hs
      injection hh with e1 _
      subst e1
      generalize ev fr x = z at hn ⊢
      cases z <;> simp [lenV] at hn ⊢
      rw [hn]
    · simp [AOp.kd] at hq
    · simp only [opS] at hs ⊢
      obtain ⟨n, hn, hh⟩ := map1 hs
      injection hh with e1 _
      subst e1
      generalize ev fr x = z at hn ⊢
      cases z <;> simp [lenV] at hn ⊢
      exact ⟨n, hn, rfl⟩
  all_goals (simp [AOp.kd] at hq)
  all_goals (simp only [opS] at hs ⊢)
  all_goals (
    (repeat' split at hs) <;>
    first
      | (cases hs; done)
      | (obtain ⟨rfl, _⟩ := pair_inj hs; simp [*]; done)
      | (obtain ⟨z, hz, hh⟩ := map1 hs; injection hh with e1 _; subst e1; simp [*]; done))
end
end Am
end Go.Proofs.YtcndgnddipbbgaaGreat
