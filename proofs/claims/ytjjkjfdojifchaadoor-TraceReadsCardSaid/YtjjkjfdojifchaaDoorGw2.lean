/-
  WHAT THE ORACLES PROMISE, THE LIBRARY'S FUNCTIONS KEEP, part 2: the library's words for text are ours.
  Conditions: none.
-/
import Derived.Test.YtjjkjfdojifchaaDoorOrc
import Derived.Lib.ItoaNum
import Derived.Lib.SplitLaws
import Derived.Lib.Join
import Derived.Lib.Bytealg
set_option linter.unusedVariables false
set_option linter.unusedSimpArgs false
namespace Go.Proofs.YtjjkjfdojifchaaDoor
namespace Am
theorem dg_lib : ∀ (n : Nat), Lib.decDigits n = dg n := by
  intro n
  induction n using Nat.strongRecOn with
  | _ n ih =>
    rw [Lib.decDigits, dg]
    split
    · rfl
    · rw [ih (n / 10) (by omega)]
theorem itoa_lib (n : Int) : Lib.itoa n = itoaL n := by
  rw [Lib.itoa, itoaL]
  split
  · rw [dg_lib, show n.natAbs = (-n).toNat from by omega]
  · rw [dg_lib]
theorem idx_lib (c : UInt8) : ∀ (l : List UInt8) (k : Nat), idxL c l k = if Lib.indexByte l c = -1 then -1 else (k : Int) + Lib.indexByte l c := by
  intro l
  induction l with
  | nil => intro k; rfl
  | cons x l ih =>
    intro k
    have hge := Lib.indexByte_ge l c
    rw [idxL, Lib.indexByte, ih]
    by_cases e : x = c
    · subst e; simp
    · have e' : (x == c) = false := by simpa using e
      rw [if_neg e, e']
      simp only [Bool.false_eq_true, if_false]
      by_cases h : Lib.indexByte l c = -1
      · simp [h]
      · have h' : (Lib.indexByte l c == -1) = false := by simpa using h
        rw [if_neg h, h']
        simp only [Bool.false_eq_true, if_false]
        rw [if_neg (by omega)]
        omega
theorem idx_lib0 (c : UInt8) (l : List UInt8) : idxL c l 0 = Lib.indexByte l c := by
  have hge := Lib.indexByte_ge l c
  rw [idx_lib]
  split <;> omega
theorem join_lib (sep : List UInt8) : ∀ (ls : List (List UInt8)), Lib.join ls sep = joinL sep ls := by
  intro ls
  induction ls with
  | nil => rfl
  | cons x r ih =>
    cases r with
    | nil => rw [joinL, Lib.join_one]
    | cons y r =>
      rw [joinL, ← ih]
      simp [Lib.join, List.intercalate]
theorem index_one (b : UInt8) : ∀ (l : List UInt8), (Lib.index l [b] = -1 ∧ b ∉ l) ∨ ∃ i : Nat, Lib.index l [b] = i ∧ i < l.length ∧ l = l.take i ++ b :: l.drop (i + 1) ∧ b ∉ l.take i := by
  intro l
  induction l with
  | nil => left; simp [Lib.index]
  | cons x l ih =>
    by_cases e : b = x
    · subst e
      right
      exact ⟨0, by simp [Lib.index, List.isPrefixOf], by simp, by simp, by simp⟩
    · have hp : List.isPrefixOf [b] (x :: l) = false := by simp [List.isPrefixOf, e]
      rw [Lib.index, hp]
      simp only [Bool.false_eq_true, if_false]
      rcases ih with ⟨h1, h2⟩ | ⟨i, h1, h2, h3, h4⟩
      · left
        rw [h1]
        exact ⟨rfl, by simp [e, h2]⟩
      · right
        refine ⟨i + 1, ?_, by simp; omega, ?_, ?_⟩
        · rw [h1]
          have : ((i : Int) == -1) = false := by simp
          rw [this]; simp
        · simp only [List.take_succ_cons, List.drop_succ_cons, List.cons_append]
          rw [← h3]
        · simp only [List.take_succ_cons, List.mem_cons, not_or]
          exact ⟨e, h4⟩
theorem splitL_none {b : UInt8} : ∀ {a : List UInt8}, b ∉ a → splitL b a = [a] := by
  intro a
  induction a with
  | nil => intro _; rfl
  | cons x a ih =>
    intro h
    simp only [List.mem_cons, not_or] at h
    rw [splitL, if_neg (fun e => h.1 e.symm), ih h.2]
theorem splitL_hit {b : UInt8} : ∀ {a : List UInt8} (r : List UInt8), b ∉ a → splitL b (a ++ b :: r) = a :: splitL b r := by
  intro a
  induction a with
  | nil => intro r _; simp [splitL]
  | cons x a ih =>
    intro r h
    simp only [List.mem_cons, not_or] at h
    rw [List.cons_append, splitL, if_neg (fun e => h.1 e.symm), ih r h.2]
theorem split_lib (b : UInt8) : ∀ (k : Nat) (s : ByteArray), Lib.countB s ⟨#[b]⟩ = k → (Lib.splitB ⟨#[b]⟩ 0 k s).map (·.data.toList) = splitL b s.data.toList := by
  intro k
  induction k with
  | zero =>
    intro s hk
    rw [Lib.splitB_zero]
    rcases index_one b s.data.toList with ⟨_, h⟩ | ⟨i, h1, h2, h3, h4⟩
    · rw [splitL_none h]; rfl
    · have := Lib.countB_hit s ⟨#[b]⟩ i (Nat.le_refl 1) h1
      omega
  | succ k ih =>
    intro s hk
    rcases index_one b s.data.toList with ⟨h1, h⟩ | ⟨i, h1, h2, h3, h4⟩
    · have := Lib.countB_miss s ⟨#[b]⟩ h1
      omega
    · have hc := Lib.countB_hit s ⟨#[b]⟩ i (Nat.le_refl 1) h1
      rw [Lib.splitB_hit _ 0 k s i h1, List.map_cons, ih _ (by omega)]
      conv => rhs; rw [h3, splitL_hit _ h4]
      have e1 : (s.extract 0 (i + 0)).data.toList = s.data.toList.take i := Lib.extract_from_zero s (i + 0)
      rw [e1]
      congr 2
      rw [Lib.extract_to_end]
      rfl
end Am
end Go.Proofs.YtjjkjfdojifchaaDoor
