/-
  WHAT THE FUNCTIONS COME TO, part 8: bytes and numbers as the document writes them.
  Conditions: none.
-/
import Derived.Test.YtjjkjfdojifchaaDoorSp7
set_option linter.unusedVariables false
set_option linter.unusedSimpArgs false
namespace Go.Proofs.YtjjkjfdojifchaaDoor
namespace Am
theorem tdiv_nat (a b : Nat) : ((a : Int)).tdiv (b : Int) = ((a / b : Nat) : Int) := (Int.ofNat_tdiv a b).symm
theorem tmod_nat (a b : Nat) : ((a : Int)).tmod (b : Int) = ((a % b : Nat) : Int) := (Int.ofNat_tmod a b).symm
theorem quo16 (c : UInt8) : IntKind.i64.wrap (((c.toNat : Int)).tdiv 16) = ((c.toNat / 16 : Nat) : Int) := by
  have := c.toNat_lt
  rw [show (16 : Int) = ((16 : Nat) : Int) from rfl, tdiv_nat, wrap_nat (by omega)]
theorem rem16 (c : UInt8) : ((c.toNat : Int)).tmod 16 = ((c.toNat % 16 : Nat) : Int) := tmod_nat _ 16
theorem dig48 {d : Nat} (h : d < 10) : UInt8.ofNat (IntKind.u8.wrap (IntKind.i64.wrap (48 + (d : Int)))).toNat = hexD d := by
  rw [wrap_i64 (by omega) (by omega), wrap_u8 (by omega) (by omega), hexD, if_pos h]
  congr 1
theorem dig87 {d : Nat} (h : ¬ d < 10) (h2 : d < 16) : UInt8.ofNat (IntKind.u8.wrap (IntKind.i64.wrap (87 + (d : Int)))).toNat = hexD d := by
  rw [wrap_i64 (by omega) (by omega), wrap_u8 (by omega) (by omega), hexD, if_neg h]
  congr 1
/-! ### Digits -/
theorem dg_lt {n : Nat} (h : n < 10) : dg n = [UInt8.ofNat (48 + n)] := by rw [dg, if_pos h]
theorem dg_ge {n : Nat} (h : ¬ n < 10) : dg n = dg (n / 10) ++ [UInt8.ofNat (48 + n % 10)] := by rw [dg, if_neg h]
theorem dg_len : ∀ (k n : Nat), 1 ≤ k → n < 10 ^ k → (dg n).length ≤ k := by
  intro k
  induction k with
  | zero => intro n h; omega
  | succ k ih =>
    intro n _ hn
    by_cases h : n < 10
    · rw [dg_lt h]; simp
    · rw [dg_ge h, List.length_append]
      have hk : 1 ≤ k := by
        rcases Nat.eq_zero_or_pos k with e | e
        · subst e; simp at hn; omega
        · exact e
      have := ih (n / 10) hk (by rw [Nat.pow_succ] at hn; omega)
      simp only [List.length_cons, List.length_nil]
      omega
/-- Digits so far. -/
def dgS (m : Nat) (s : List UInt8) : List UInt8 := if m = 0 then s else dg m ++ s
theorem dg_step (m : Nat) (s : List UInt8) : dg m ++ s = dgS (m / 10) (UInt8.ofNat (48 + m % 10) :: s) := by
  by_cases h : m < 10
  · rw [dg_lt h, dgS, if_pos (by omega), Nat.mod_eq_of_lt h]; rfl
  · rw [dg_ge h, dgS, if_neg (by omega)]; simp
theorem d48 {d : Nat} (h : d < 10) : UInt8.ofNat (IntKind.u8.wrap (IntKind.i64.wrap (48 + (d : Int)))).toNat = UInt8.ofNat (48 + d) := by
  rw [wrap_i64 (by omega) (by omega), wrap_u8 (by omega) (by omega)]
  congr 1
theorem quo10 {m : Nat} (h : m ≤ 9223372036854775807) : IntKind.i64.wrap ((m : Int).tdiv 10) = ((m / 10 : Nat) : Int) := by
  rw [show (10 : Int) = ((10 : Nat) : Int) from rfl, tdiv_nat, wrap_i64 (by omega) (by omega)]
theorem rem10 (m : Nat) : ((m : Int)).tmod 10 = ((m % 10 : Nat) : Int) := tmod_nat _ 10
theorem pow_half {m i : Nat} (hi : i ≤ 62) (hm : m < 2 ^ (63 - i)) : m / 10 < 2 ^ (63 - (i + 1)) := by
  have : 2 ^ (63 - i) = 2 ^ (63 - (i + 1)) * 2 := by rw [show 63 - i = (63 - (i + 1)) + 1 by omega, Nat.pow_succ]
  omega
theorem pow_63 {m i : Nat} (hm : m < 2 ^ (63 - i)) : m ≤ 9223372036854775807 := by
  have : 2 ^ (63 - i) ≤ 2 ^ 63 := Nat.pow_le_pow_right (by decide) (by omega)
  omega
theorem remN (m : Nat) : (-(m : Int)).tmod 10 = -((m % 10 : Nat) : Int) := by rw [Int.neg_tmod, rem10]
theorem quoN {m : Nat} (h : m ≤ 9223372036854775808) : IntKind.i64.wrap ((-(m : Int)).tdiv 10) = -((m / 10 : Nat) : Int) := by
  rw [Int.neg_tdiv, show (10 : Int) = ((10 : Nat) : Int) from rfl, tdiv_nat, wrap_i64 (by omega) (by omega)]
theorem d48N {d : Nat} (h : d < 10) : UInt8.ofNat (IntKind.u8.wrap (IntKind.i64.wrap (48 - -(d : Int)))).toNat = UInt8.ofNat (48 + d) := by
  rw [show (48 : Int) - -(d : Int) = 48 + (d : Int) by omega]; exact d48 h
end Am
end Go.Proofs.YtjjkjfdojifchaaDoor
