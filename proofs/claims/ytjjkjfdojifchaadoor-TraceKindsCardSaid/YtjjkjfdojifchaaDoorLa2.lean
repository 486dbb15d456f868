/-
  THE WORLD IN WHICH A CALL BEGINS, AS THE MACHINE'S FIRST HEAP.
  Conditions: none (what is asked of the world stands in each statement).
-/
import Derived.Test.YtjjkjfdojifchaaDoorGw4
import Derived.Test.YtjjkjfdojifchaaDoorLa1
import Derived.Stop.LaidErr
set_option linter.unusedVariables false
set_option linter.unusedSimpArgs false
namespace Go.Proofs.YtjjkjfdojifchaaDoor
namespace Am
open Go.RowKit Go.Proofs
/-- What is known of the package's variables. -/
structure WOk (W : World) (tp : Nat) (m : Int) (te3 te4 b3 o3 b4 o4 : Nat) : Prop where
  words : ∃ cs T fz, W.heap[gv0]? = some (.cells cs T fz) ∧ cs.size = 13 ∧ ∀ (j : Nat) v, wordsV[j]? = some v → v.one = true ∧ ∃ u, cs[j]? = some u ∧ ∀ σ, VR σ v u
  pow : ∃ cs fz, W.heap[gv1]? = some (.cells cs tp fz) ∧ cs.size = 20 ∧ ∀ (j : Nat) v, powV[j]? = some v → v.one = true ∧ ∃ u, cs[j]? = some u ∧ ∀ σ, VR σ v u
  tpow : tp < 1000000
  max : ∃ T fz, W.heap[gv2]? = some (.cells #[.int .i64 m] T fz)
  e3 : ∃ T fz, W.heap[gv3]? = some (.cells #[.iface te3 (.pointer (some ⟨b3, o3, none⟩))] T fz)
  e4 : ∃ T fz, W.heap[gv4]? = some (.cells #[.iface te4 (.pointer (some ⟨b4, o4, none⟩))] T fz)
  l3 : b3 < W.heap.size
  l4 : b4 < W.heap.size
/-- The first heap. -/
def H0 (tp : Nat) (m : Int) (te3 te4 : Nat) (rows : List Obj) : Heap :=
  .cells wordsV true none :: .cells powV true (some tp) :: .cells [.i .i64 m] true none :: .cells [.ic te3 (.p (some (5, 0)))] true none :: .cells [.ic te4 (.p (some (6, 0)))] true none :: .dead :: .dead :: rows
/-- Where its objects lie. -/
def S0 (b3 o3 b4 o4 : Nat) (ls : List (Option Loc)) : Sg := fun i =>
  match i with
  | 0 => some ⟨gv0, 0, 13⟩ | 1 => some ⟨gv1, 0, 20⟩ | 2 => some ⟨gv2, 0, 1⟩ | 3 => some ⟨gv3, 0, 1⟩ | 4 => some ⟨gv4, 0, 1⟩ | 5 => some ⟨b3, o3, 0⟩ | 6 => some ⟨b4, o4, 0⟩
  | k + 7 => (ls[k]?).join
theorem S0_gl (b3 o3 b4 o4 : Nat) (ls : List (Option Loc)) : GlOk (S0 b3 o3 b4 o4 ls) G := by
  intro g id h
  unfold G at h
  split at h
  · rename_i e; injection h with h; subst h; subst e; exact ⟨_, rfl, rfl, rfl⟩
  split at h
  · rename_i e; injection h with h; subst h; subst e; exact ⟨_, rfl, rfl, rfl⟩
  split at h
  · rename_i e; injection h with h; subst h; subst e; exact ⟨_, rfl, rfl, rfl⟩
  split at h
  · rename_i e; injection h with h; subst h; subst e; exact ⟨_, rfl, rfl, rfl⟩
  split at h
  · rename_i e; injection h with h; subst h; subst e; exact ⟨_, rfl, rfl, rfl⟩
  · cases h
theorem sameL_refl_s : ∀ (ls : List (List UInt8)), sameL (ls.map .s) (ls.map .s) = true := by
  intro ls
  induction ls with
  | nil => rfl
  | cons l ls ih => simp [sameL, same1, ih]
theorem H0_gl {tp : Nat} (ht : tp < 1000000) (m : Int) (te3 te4 : Nat) (rows : List Obj) : glOk (H0 tp m te3 te4 rows) = true := by
  have h1 : sameL wordsV wordsV = true := by decide +kernel
  have h2 : sameL powV powV = true := by decide +kernel
  simp [glOk, H0, h1, h2, ht]
theorem first_HR {W : World} {tp : Nat} {m : Int} {te3 te4 b3 o3 b4 o4 : Nat} (hW : WOk W tp m te3 te4 b3 o3 b4 o4) {rows : List Obj} {ls : List (Option Loc)} (hlen : ls.length = rows.length)
    (hr : ∀ (k : Nat) o l, rows[k]? = some o → ls[k]? = some (some l) → l.b < W.heap.size ∧ o.live = false ∧ ∀ σ, OR σ W.heap.size W l o) (hlive : ∀ o ∈ rows, o.live = false) :
    HR (S0 b3 o3 b4 o4 ls) W.heap.size W (H0 tp m te3 te4 rows) W := by
  have lt : ∀ {g : Nat} {o : Go.Obj}, W.heap[g]? = some o → g < W.heap.size := fun {g o} h => by
    rcases Nat.lt_or_ge g W.heap.size with h' | h'
    · exact h'
    · rw [Array.getElem?_eq_none h'] at h; cases h
  obtain ⟨c0, T0, f0, w0, n0, r0⟩ := hW.words
  obtain ⟨c1, f1, w1, n1, r1⟩ := hW.pow
  obtain ⟨T2, f2, w2⟩ := hW.max
  obtain ⟨T3, f3, w3⟩ := hW.e3
  obtain ⟨T4, f4, w4⟩ := hW.e4
  refine HR.first (fun i l hs => ?_) (fun i o hi => ?_) (fun i o l hi hs => ?_)
  · match i, hs with
    | 0, hs => cases hs; exact ⟨by simp [H0], lt w0⟩
    | 1, hs => cases hs; exact ⟨by simp [H0], lt w1⟩
    | 2, hs => cases hs; exact ⟨by simp [H0], lt w2⟩
    | 3, hs => cases hs; exact ⟨by simp [H0], lt w3⟩
    | 4, hs => cases hs; exact ⟨by simp [H0], lt w4⟩
    | 5, hs => cases hs; exact ⟨by simp [H0], hW.l3⟩
    | 6, hs => cases hs; exact ⟨by simp [H0], hW.l4⟩
    | k + 7, hs =>
      have hs' : ls[k]? = some (some l) := by
        simp only [S0] at hs
        cases hk : ls[k]? with
        | none => rw [hk] at hs; cases hs
        | some x => rw [hk] at hs; simp at hs; rw [hs]
      have hk := (List.getElem?_eq_some_iff.1 hs').1
      obtain ⟨q, _, _⟩ := hr k rows[k] l (by simp) hs'
      exact ⟨by simp [H0]; omega, q⟩
  · match i, hi with
    | 0, hi => cases hi; rfl
    | 1, hi => cases hi; rfl
    | 2, hi => cases hi; rfl
    | 3, hi => cases hi; rfl
    | 4, hi => cases hi; rfl
    | 5, hi => cases hi; rfl
    | 6, hi => cases hi; rfl
    | k + 7, hi => exact hlive o (List.mem_of_getElem? (show rows[k]? = some o from hi))
  · match i, hi, hs with
    | 0, hi, hs =>
      cases hi; cases hs
      rw [← n0]
      exact OR_ro w0 (vs := wordsV) (show wordsV.length = c0.size from n0.symm) (fun j v hj => by obtain ⟨a, u, b, c⟩ := r0 j v hj; exact ⟨a, u, b, c _⟩) (.inl rfl)
    | 1, hi, hs =>
      cases hi; cases hs
      rw [← n1]
      exact OR_ro w1 (vs := powV) (show powV.length = c1.size from n1.symm) (fun j v hj => by obtain ⟨a, u, b, c⟩ := r1 j v hj; exact ⟨a, u, b, c _⟩) (.inr ⟨rfl, hW.tpow⟩)
    | 2, hi, hs =>
      cases hi; cases hs
      exact OR_ro w2 rfl (fun j v hj => by
        match j, hj with
        | 0, hj => cases hj; exact ⟨rfl, _, rfl, .i _ _⟩) (.inl rfl)
    | 3, hi, hs =>
      cases hi; cases hs
      exact OR_ro w3 rfl (fun j v hj => by
        match j, hj with
        | 0, hj => cases hj; exact ⟨rfl, _, rfl, .ic _ (.p (off := 0) (l := ⟨b3, o3, 0⟩) rfl)⟩) (.inl rfl)
    | 4, hi, hs =>
      cases hi; cases hs
      exact OR_ro w4 rfl (fun j v hj => by
        match j, hj with
        | 0, hj => cases hj; exact ⟨rfl, _, rfl, .ic _ (.p (off := 0) (l := ⟨b4, o4, 0⟩) rfl)⟩) (.inl rfl)
    | 5, hi, hs => cases hi; trivial
    | 6, hi, hs => cases hi; trivial
    | k + 7, hi, hs =>
      have hs' : ls[k]? = some (some l) := by
        simp only [S0] at hs
        cases hk : ls[k]? with
        | none => rw [hk] at hs; cases hs
        | some x => rw [hk] at hs; simp at hs; rw [hs]
      exact (hr k o l hi hs').2.2 _
end Am
end Go.Proofs.YtjjkjfdojifchaaDoor
