/-
  WHAT THE FUNCTIONS COME TO, part 11: a unit's text, by the document.
  Conditions: none.
-/
import Derived.Test.YtjjkjfdojifchaaDoorSp10
import Derived.Test.YtjjkjfdojifchaaDoorSp2
set_option linter.unusedVariables false
set_option linter.unusedSimpArgs false
namespace Go.Proofs.YtjjkjfdojifchaaDoor
namespace Am
theorem joinL_snoc (sep : List UInt8) (a : List (List UInt8)) (x : List UInt8) (h : a ≠ []) : joinL sep (a ++ [x]) = joinL sep a ++ sep ++ x := by
  induction a with
  | nil => exact absurd rfl h
  | cons b r ih =>
    cases r with
    | nil => simp [joinL]
    | cons c r =>
      have := ih (by simp)
      simp only [List.cons_append, joinL] at this ⊢
      rw [this]; simp
end Am
end Go.Proofs.YtjjkjfdojifchaaDoor
