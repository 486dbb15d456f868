/-
  THE ABSTRACT MACHINE, part 13: the same machine over frames that are trees: what the kernel steps through fast.
  Conditions: none (definitions and lemmas).
-/
import Derived.Test.YtcndgnddipbbgaaGreatAm12
set_option linter.unusedVariables false
set_option linter.unusedSimpArgs false
namespace Go.Proofs.YtcndgnddipbbgaaGreat
namespace Am

inductive T (α : Type) where
  | lf
  | nd (l : T α) (v : α) (r : T α)

section
variable {α : Type}

noncomputable def T.get? (t : T α) : Nat → Option α :=
  T.rec (motive := fun _ => Nat → Option α) (fun _ => none) (fun _ v _ gl gr i => cond (Nat.beq i 0) (some v) (cond (Nat.beq (i % 2) 1) (gl (i / 2)) (gr (i / 2 - 1)))) t
noncomputable def T.get (t : T V) : Nat → V :=
  T.rec (motive := fun _ => Nat → V) (fun _ => un) (fun _ v _ gl gr i => cond (Nat.beq i 0) v (cond (Nat.beq (i % 2) 1) (gl (i / 2)) (gr (i / 2 - 1)))) t
noncomputable def T.set (t : T α) : Nat → α → T α :=
  T.rec (motive := fun _ => Nat → α → T α) (fun _ _ => .lf) (fun l w r sl sr i v => cond (Nat.beq i 0) (.nd l v r) (cond (Nat.beq (i % 2) 1) (.nd (sl (i / 2) v) w r) (.nd l w (sr (i / 2 - 1) v)))) t
/-- One more behind the last. -/
noncomputable def T.push (t : T α) : Nat → α → T α :=
  T.rec (motive := fun _ => Nat → α → T α) (fun _ v => .nd .lf v .lf) (fun l w r sl sr i v => cond (Nat.beq i 0) (.nd l v r) (cond (Nat.beq (i % 2) 1) (.nd (sl (i / 2) v) w r) (.nd l w (sr (i / 2 - 1) v)))) t
def T.full : Nat → Nat → T V
  | 0, _ => .lf
  | f + 1, n => cond (Nat.beq n 0) .lf (.nd (T.full f (n / 2)) un (T.full f ((n - 1) / 2)))

theorem T.get_eq (t : T V) : ∀ i, t.get i = (t.get? i).getD un := by
  induction t with
  | lf => intro i; rfl
  | nd l v r ihl ihr =>
    intro i
    show cond (Nat.beq i 0) v (cond (Nat.beq (i % 2) 1) (l.get (i / 2)) (r.get (i / 2 - 1))) = (cond (Nat.beq i 0) (some v) (cond (Nat.beq (i % 2) 1) (l.get? (i / 2)) (r.get? (i / 2 - 1)))).getD un
    rw [ihl, ihr]
    cases Nat.beq i 0 <;> cases Nat.beq (i % 2) 1 <;> rfl

theorem T.get?_nd (l r : T α) (v : α) (i : Nat) : (T.nd l v r).get? i = if i = 0 then some v else if i % 2 = 1 then l.get? (i / 2) else r.get? (i / 2 - 1) := by
  show cond (Nat.beq i 0) (some v) (cond (Nat.beq (i % 2) 1) (l.get? (i / 2)) (r.get? (i / 2 - 1))) = _
  by_cases h : i = 0
  · subst h; rfl
  · have : Nat.beq i 0 = false := by cases hb : Nat.beq i 0 with | false => rfl | true => exact absurd (Nat.eq_of_beq_eq_true hb) h
    rw [this, if_neg h]
    by_cases h2 : i % 2 = 1
    · rw [h2]; rfl
    · have : Nat.beq (i % 2) 1 = false := by cases hb : Nat.beq (i % 2) 1 with | false => rfl | true => exact absurd (Nat.eq_of_beq_eq_true hb) h2
      rw [this, if_neg h2]; rfl
theorem T.set_nd (l r : T α) (w : α) (i : Nat) (v : α) : (T.nd l w r).set i v = if i = 0 then .nd l v r else if i % 2 = 1 then .nd (l.set (i / 2) v) w r else .nd l w (r.set (i / 2 - 1) v) := by
  show cond (Nat.beq i 0) (T.nd l v r) (cond (Nat.beq (i % 2) 1) (T.nd (l.set (i / 2) v) w r) (T.nd l w (r.set (i / 2 - 1) v))) = _
  by_cases h : i = 0
  · subst h; rfl
  · have : Nat.beq i 0 = false := by cases hb : Nat.beq i 0 with | false => rfl | true => exact absurd (Nat.eq_of_beq_eq_true hb) h
    rw [this, if_neg h]
    by_cases h2 : i % 2 = 1
    · rw [h2]; rfl
    · have : Nat.beq (i % 2) 1 = false := by cases hb : Nat.beq (i % 2) 1 with | false => rfl | true => exact absurd (Nat.eq_of_beq_eq_true hb) h2
      rw [this, if_neg h2]; rfl

theorem T.push_nd (l r : T α) (w : α) (i : Nat) (v : α) : (T.nd l w r).push i v = if i = 0 then .nd l v r else if i % 2 = 1 then .nd (l.push (i / 2) v) w r else .nd l w (r.push (i / 2 - 1) v) := by
  show cond (Nat.beq i 0) (T.nd l v r) (cond (Nat.beq (i % 2) 1) (T.nd (l.push (i / 2) v) w r) (T.nd l w (r.push (i / 2 - 1) v))) = _
  by_cases h : i = 0
  · subst h; rfl
  · have : Nat.beq i 0 = false := by cases hb : Nat.beq i 0 with | false => rfl | true => exact absurd (Nat.eq_of_beq_eq_true hb) h
    rw [this, if_neg h]
    by_cases h2 : i % 2 = 1
    · rw [h2]; rfl
    · have : Nat.beq (i % 2) 1 = false := by cases hb : Nat.beq (i % 2) 1 with | false => rfl | true => exact absurd (Nat.eq_of_beq_eq_true hb) h2
      rw [this, if_neg h2]; rfl

theorem T.get?_set (t : T α) : ∀ (i j : Nat) (v : α), (t.set i v).get? j = if i = j then (t.get? j).map (fun _ => v) else t.get? j := by
  induction t with
  | lf => intro i j v; show none = if i = j then (none : Option α).map _ else none; split <;> rfl
  | nd l w r ihl ihr =>
    intro i j v
    rw [T.set_nd, T.get?_nd]
    by_cases hi : i = 0
    · rw [if_pos hi, T.get?_nd]
      by_cases hj : j = 0
      · rw [if_pos hj, if_pos hj, if_pos (by omega)]; rfl
      · rw [if_neg hj, if_neg hj, if_neg (show ¬ i = j by omega)]
    · rw [if_neg hi]
      by_cases hi2 : i % 2 = 1
      · rw [if_pos hi2, T.get?_nd]
        by_cases hj : j = 0
        · rw [if_pos hj, if_pos hj, if_neg (by omega)]
        · rw [if_neg hj, if_neg hj]
          by_cases hj2 : j % 2 = 1
          · rw [if_pos hj2, if_pos hj2, ihl]
            by_cases e : i = j
            · rw [if_pos e, if_pos (by omega)]
            · rw [if_neg e, if_neg (by omega)]
          · rw [if_neg hj2, if_neg hj2, if_neg (by omega)]
      · rw [if_neg hi2, T.get?_nd]
        by_cases hj : j = 0
        · rw [if_pos hj, if_pos hj, if_neg (by omega)]
        · rw [if_neg hj, if_neg hj]
          by_cases hj2 : j % 2 = 1
          · rw [if_pos hj2, if_pos hj2, if_neg (by omega)]
          · rw [if_neg hj2, if_neg hj2, ihr]
            by_cases e : i = j
            · rw [if_pos e, if_pos (by omega)]
            · rw [if_neg e, if_neg (by omega)]

theorem T.get?_push (t : T α) : ∀ (n j : Nat) (v : α), (∀ i, (t.get? i).isSome = decide (i < n)) → (t.push n v).get? j = if j = n then some v else t.get? j := by
  induction t with
  | lf =>
    intro n j v h
    have hn : n = 0 := by
      have := h 0
      have h0 : ((T.lf : T α).get? 0).isSome = false := rfl
      rw [h0] at this
      have := of_decide_eq_false this.symm
      omega
    subst hn
    show (T.nd (T.lf : T α) v T.lf).get? j = _
    rw [T.get?_nd]
    by_cases hj : j = 0
    · rw [if_pos hj, if_pos hj]
    · rw [if_neg hj, if_neg hj]; split <;> rfl
  | nd l w r ihl ihr =>
    intro n j v h
    rw [T.push_nd, T.get?_nd]
    have h0 : n ≠ 0 := by
      have := h 0
      rw [T.get?_nd, if_pos rfl] at this
      have := of_decide_eq_true this.symm
      omega
    rw [if_neg h0]
    by_cases hi2 : n % 2 = 1
    · rw [if_pos hi2, T.get?_nd, ihl]
      · by_cases hj : j = 0
        · rw [if_pos hj, if_pos hj, if_neg (by omega)]
        · rw [if_neg hj, if_neg hj]
          by_cases hj2 : j % 2 = 1
          · rw [if_pos hj2, if_pos hj2]
            by_cases e : j = n
            · rw [if_pos e, if_pos (by omega)]
            · rw [if_neg e, if_neg (by omega)]
          · rw [if_neg hj2, if_neg hj2, if_neg (by omega)]
      · intro i
        have := h (2 * i + 1)
        rw [T.get?_nd, if_neg (by omega), if_pos (by omega), show (2 * i + 1) / 2 = i by omega] at this
        rw [this]
        congr 1
        apply propext
        omega
    · rw [if_neg hi2, T.get?_nd, ihr]
      · by_cases hj : j = 0
        · rw [if_pos hj, if_pos hj, if_neg (by omega)]
        · rw [if_neg hj, if_neg hj]
          by_cases hj2 : j % 2 = 1
          · rw [if_pos hj2, if_pos hj2, if_neg (by omega)]
          · rw [if_neg hj2, if_neg hj2]
            by_cases e : j = n
            · rw [if_pos e, if_pos (by omega)]
            · rw [if_neg e, if_neg (by omega)]
      · intro i
        have := h (2 * i + 2)
        rw [T.get?_nd, if_neg (by omega), if_neg (by omega), show (2 * i + 2) / 2 - 1 = i by omega] at this
        rw [this]
        congr 1
        apply propext
        omega
end

theorem T.full_get : ∀ (f n i : Nat), n < 2 ^ f → (T.full f n).get? i = if i < n then some un else none := by
  intro f
  induction f with
  | zero => intro n i h; simp at h; subst h; rfl
  | succ f ih =>
    intro n i h
    rw [Nat.pow_succ] at h
    unfold T.full
    by_cases hn : n = 0
    · subst hn; rfl
    · have : Nat.beq n 0 = false := by cases hb : Nat.beq n 0 with | false => rfl | true => exact absurd (Nat.eq_of_beq_eq_true hb) hn
      rw [this]
      simp only [cond]
      rw [T.get?_nd]
      by_cases hi : i = 0
      · rw [if_pos hi, if_pos (by omega)]
      · rw [if_neg hi, ih _ _ (by omega), ih _ _ (by omega)]
        by_cases hi2 : i % 2 = 1
        · rw [if_pos hi2]
          by_cases e : i < n
          · rw [if_pos e, if_pos (by omega)]
          · rw [if_neg e, if_neg (by omega)]
        · rw [if_neg hi2]
          by_cases e : i < n
          · rw [if_pos e, if_pos (by omega)]
          · rw [if_neg e, if_neg (by omega)]

def RT (t : T V) (fr : List V) : Prop := ∀ i : Nat, t.get? i = fr[i]?
theorem RT.get {t : T V} {fr : List V} (h : RT t fr) (i : Nat) : t.get i = fr.getD i un := by
  rw [T.get_eq, h i, List.getD_eq_getElem?_getD]
theorem RT.set {t : T V} {fr : List V} (h : RT t fr) (i : Nat) (v : V) : RT (t.set i v) (fr.set i v) := fun j => by
  rw [T.get?_set, put_get, h j]

/-! ### Frames -/
noncomputable def fillT : List V → Nat → T V → T V :=
  fun l => List.rec (motive := fun _ => Nat → T V → T V) (fun _ t => t) (fun v _ ih i t => ih (i + 1) (t.set i v)) l
noncomputable def frameT (nt : Nat) (args : List V) : T V := fillT args 0 (T.full 16 nt)

theorem fillT_get (l : List V) : ∀ (i : Nat) (t : T V) (j : Nat), (∀ k, (t.get? (i + k)).isSome = true ∨ l.length ≤ k) → (fillT l i t).get? j = if i ≤ j ∧ j < i + l.length then l[j - i]? else t.get? j := by
  induction l with
  | nil => intro i t j _; show t.get? j = _; rw [if_neg (by simp)]
  | cons v l ih =>
    intro i t j h
    show (fillT l (i + 1) (t.set i v)).get? j = _
    rw [ih]
    · simp only [List.length_cons]
      by_cases hj : j = i
      · subst hj
        rw [if_neg (by omega), if_pos (by omega), T.get?_set, if_pos rfl]
        have := h 0
        simp at this
        obtain ⟨x, hx⟩ := Option.isSome_iff_exists.1 this
        simp [hx]
      · by_cases hc : i + 1 ≤ j ∧ j < i + 1 + l.length
        · rw [if_pos hc, if_pos (by omega), show j - i = (j - (i + 1)) + 1 by omega]; simp
        · rw [if_neg hc, if_neg (by omega), T.get?_set, if_neg (by omega)]
    · intro k
      rcases h (k + 1) with h | h
      · left
        rw [T.get?_set, if_neg (by omega)]
        rwa [show i + 1 + k = i + (k + 1) by omega]
      · right; simp at h; omega

theorem frameT_ok {nt : Nat} {args : List V} (hn : nt < 65536) (ha : args.length ≤ nt) : RT (frameT nt args) (frame0 nt args) := by
  intro j
  unfold frameT
  rw [fillT_get]
  · rw [T.full_get 16 nt j (by simpa using hn)]
    simp only [frame0, Nat.zero_le, true_and, Nat.zero_add, Nat.sub_zero]
    by_cases hj : j < args.length
    · rw [if_pos hj, List.getElem?_append_left hj]
    · rw [if_neg hj, List.getElem?_append_right (by omega), List.getElem?_replicate]
      by_cases hj2 : j < nt
      · rw [if_pos hj2, if_pos (by omega)]
      · rw [if_neg hj2, if_neg (by omega)]
  · intro k
    rw [T.full_get 16 nt _ (by simpa using hn)]
    by_cases hk : 0 + k < nt
    · left; rw [if_pos hk]; rfl
    · right; omega

/-! ### Heaps -/
structure HT where
  n : Nat
  t : T Obj
noncomputable def HT.get (h : HT) (i : Nat) : Option Obj := h.t.get? i
noncomputable def HT.set (h : HT) (i : Nat) (o : Obj) : HT := ⟨h.n, h.t.set i o⟩
noncomputable def HT.push (h : HT) (o : Obj) : HT := ⟨h.n + 1, h.t.push h.n o⟩
def HT.nil : HT := ⟨0, .lf⟩
def RH (ht : HT) (h : Heap) : Prop := ht.n = h.length ∧ ∀ i : Nat, ht.t.get? i = h[i]?
theorem RH.get {ht : HT} {h : Heap} (r : RH ht h) (i : Nat) : ht.get i = h[i]? := r.2 i
theorem RH.set {ht : HT} {h : Heap} (r : RH ht h) (i : Nat) (o : Obj) : RH (ht.set i o) (h.set i o) := by
  refine ⟨by simpa [HT.set] using r.1, fun j => ?_⟩
  show (ht.t.set i o).get? j = _
  rw [T.get?_set, r.2 j]
  by_cases e : i = j
  · subst e
    rw [if_pos rfl]
    by_cases h' : i < h.length
    · rw [List.getElem?_set_self h', List.getElem?_eq_getElem h']; rfl
    · have h1 : (h.set i o)[i]? = none := List.getElem?_eq_none (by rw [List.length_set]; omega)
      rw [h1, List.getElem?_eq_none (by omega)]; rfl
  · rw [if_neg e, List.getElem?_set_ne e]
theorem RH.push {ht : HT} {h : Heap} (r : RH ht h) (o : Obj) : RH (ht.push o) (h ++ [o]) := by
  refine ⟨by simp [HT.push, r.1], fun j => ?_⟩
  show (ht.t.push ht.n o).get? j = _
  rw [T.get?_push _ _ _ _ (fun i => by rw [r.2 i, r.1]; cases hc : h[i]? with | none => have := List.getElem?_eq_none_iff.1 hc; simp; omega | some x => have := (List.getElem?_eq_some_iff.1 hc).1; simp; omega), r.1]
  by_cases e : j = h.length
  · rw [if_pos e, e]; simp
  · rw [if_neg e, r.2 j]
    rcases Nat.lt_or_ge j h.length with hj | hj
    · rw [List.getElem?_append_left hj]
    · rw [List.getElem?_eq_none hj, List.getElem?_eq_none (by simp; omega)]
theorem RH.nil : RH HT.nil [] := ⟨rfl, fun i => by simp; rfl⟩
end Am
end Go.Proofs.YtcndgnddipbbgaaGreat
