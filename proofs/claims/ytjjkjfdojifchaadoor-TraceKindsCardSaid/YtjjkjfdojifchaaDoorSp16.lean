/-
  WHAT THE FUNCTIONS COME TO, part 16: a signal's text.
  Conditions: none.
-/
import Derived.Test.YtjjkjfdojifchaaDoorSp10
import Derived.Test.YtjjkjfdojifchaaDoorAm7
set_option linter.unusedVariables false
set_option linter.unusedSimpArgs false
namespace Go.Proofs.YtjjkjfdojifchaaDoor
namespace Am
/-- The word of a kind of signals. -/
def sigN (k : Int) : List UInt8 :=
  if k = 1 then [101, 115, 116, 97, 98, 108, 105, 115, 104] else if k = 2 then [101, 115, 116, 97, 98, 108, 105, 115, 104, 101, 100] else if k = 3 then [114, 101, 108, 101, 97, 115, 101] else
  if k = 4 then [114, 101, 108, 101, 97, 115, 101, 100] else if k = 5 then [114, 101, 115, 121, 110, 99] else if k = 6 then [114, 101, 115, 121, 110, 99, 101, 100] else if k = 7 then [114, 101, 99, 111, 118, 101, 114] else
  if k = 8 then [100, 97, 116, 97] else if k = 9 then [117, 110, 105, 116] else if k = 10 then [109, 97, 110, 97, 103, 101] else if k = 11 then [114, 101, 116, 114, 105, 101, 118, 101, 100] else [101, 114, 114, 111, 114]
/-- A signal's text. -/
def sigT (k : Int) (d : List UInt8) (self : Bool) (code : UInt8) (n : Int) : List UInt8 :=
  if k < 1 ∨ 12 < k then [] else
  if k = 3 then sigN k ++ ((if self = true then [32, 115, 101, 108, 102, 32] else [32, 117, 115, 101, 114, 32]) ++ hexT d) else
  if k = 1 ∨ k = 5 ∨ k = 8 ∨ k = 9 ∨ k = 10 ∨ k = 11 then sigN k ++ (32 :: hexT d) else
  if k = 12 then (if code = 86 then sigN k ++ ([32, code] ++ (32 :: itoaL n)) else sigN k ++ [32, code]) else sigN k
theorem gl_words {h : Heap} (hg : glOk h = true) : ∃ ty, h[0]? = some (.cells wordsV true ty) := by
  unfold glOk at hg
  simp only [Bool.and_eq_true] at hg
  have h1 := hg.1.1.1.1
  split at h1
  · rename_i a ty e
    rw [e, sameL_eq h1]
    exact ⟨_, rfl⟩
  · cases h1
theorem kinds12 (k : Int) : (k < 1 ∨ 12 < k) ∨ (k = 1 ∨ k = 2 ∨ k = 3 ∨ k = 4 ∨ k = 5 ∨ k = 6 ∨ k = 7 ∨ k = 8 ∨ k = 9 ∨ k = 10 ∨ k = 11 ∨ k = 12) := by omega
theorem itoaL_le {n : Int} (n1 : -9223372036854775808 ≤ n) (n2 : n ≤ 9223372036854775807) : (itoaL n).length ≤ 20 := by
  rw [itoaL]
  split
  · have := dg_len 19 (-n).toNat (by omega) (by omega)
    simp only [List.length_cons]; omega
  · have := dg_len 19 n.toNat (by omega) (by omega)
    omega
theorem sigN_le (k : Int) : (sigN k).length ≤ 11 := by
  unfold sigN
  repeat' split
  all_goals decide
theorem code_eq (c : UInt8) : ((c.toNat : Int) = 86) = (c = 86) := by
  apply propext
  constructor
  · intro e
    have : c.toNat = 86 := by omega
    exact UInt8.toNat_inj.1 this
  · intro e; rw [e]; rfl
theorem byte_of (c : UInt8) : UInt8.ofNat ((c.toNat : Int)).toNat = c := by simp
set_option maxHeartbeats 2000000 in
theorem s_SText (k : Int) (d : List UInt8) (self : Bool) (code : UInt8) (n : Int) (h : Heap) (hg : glOk h = true) (hd : d.length ≤ 1000) (n1 : -9223372036854775808 ≤ n) (n2 : n ≤ 9223372036854775807) :
    ∃ v h', To M n_event_Signal_Text [.g [.i .i64 k, .s d, .b self, .i .u8 code.toNat, .i .i64 n]] h v h' ∧ v = .s (sigT k d self code n) ∧ Keeps h h' := by
  obtain ⟨ty0, h0⟩ := gl_words hg
  refine To_body' rfl F_event_Signal_Text (Nat.le_of_ble_eq_true rfl) ?_
  rcases kinds12 k with hk | hk
  · simp only [go_sem, Nat.reduceLT, Nat.reduceLeDiff, Nat.reduceEqDiff, Nat.reduceAdd, Nat.reduceMul, Nat.reduceSub, Int.reduceLT, Int.reduceLE, Int.reduceEq, Int.reduceNe, Int.reduceToNat, Int.reduceAdd, Int.reduceSub, Int.reduceMul, Int.reduceNeg, Int.reduceBEq, Int.reduceBNe, Nat.reduceBEq, b_event_Signal_Text]
    rcases hk with hk | hk
    · simp only [go_sem, Nat.reduceLT, Nat.reduceLeDiff, Nat.reduceEqDiff, Nat.reduceAdd, Nat.reduceMul, Nat.reduceSub, Int.reduceLT, Int.reduceLE, Int.reduceEq, Int.reduceNe, Int.reduceToNat, Int.reduceAdd, Int.reduceSub, Int.reduceMul, Int.reduceNeg, Int.reduceBEq, Int.reduceBNe, Nat.reduceBEq, hk]
      exact ⟨_, rfl, by rw [sigT, if_pos (.inl hk)], Keeps.app _ _⟩
    · have hk' : ¬ k < 1 := by omega
      simp only [go_sem, Nat.reduceLT, Nat.reduceLeDiff, Nat.reduceEqDiff, Nat.reduceAdd, Nat.reduceMul, Nat.reduceSub, Int.reduceLT, Int.reduceLE, Int.reduceEq, Int.reduceNe, Int.reduceToNat, Int.reduceAdd, Int.reduceSub, Int.reduceMul, Int.reduceNeg, Int.reduceBEq, Int.reduceBNe, Nat.reduceBEq, hk', hk]
      exact ⟨_, rfl, by rw [sigT, if_pos (.inr hk)], Keeps.app _ _⟩
  · have hex : ∀ H, ∃ v h', To M n_event_Hex [.s d] H v h' ∧ v = .s (hexT d) ∧ Keeps H h' := fun H => s_Hex d H (by omega)
    rcases hk with rfl | rfl | rfl | rfl | rfl | rfl | rfl | rfl | rfl | rfl | rfl | rfl
    all_goals simp only [go_sem, Nat.reduceLT, Nat.reduceLeDiff, Nat.reduceEqDiff, Nat.reduceAdd, Nat.reduceMul, Nat.reduceSub, Int.reduceLT, Int.reduceLE, Int.reduceEq, Int.reduceNe, Int.reduceToNat, Int.reduceAdd, Int.reduceSub, Int.reduceMul, Int.reduceNeg, Int.reduceBEq, Int.reduceBNe, Nat.reduceBEq, b_event_Signal_Text, h0, wordsV]
    all_goals try (refine ⟨_, rfl, ?_, Keeps.app _ _⟩; rfl)
    all_goals try (
      refine Pc_ofK (hex _) fun H1 hk1 => ?_
      simp only [go_sem, Nat.reduceLT, Nat.reduceLeDiff, Nat.reduceEqDiff, Nat.reduceAdd, Nat.reduceMul, Nat.reduceSub, Int.reduceLT, Int.reduceLE, Int.reduceEq, Int.reduceNe, Int.reduceToNat, Int.reduceAdd, Int.reduceSub, Int.reduceMul, Int.reduceNeg, Int.reduceBEq, Int.reduceBNe, Nat.reduceBEq]
      refine Po_add (by have := hexT_len d; simp; omega) ?_
      simp only [go_sem, Nat.reduceLT, Nat.reduceLeDiff, Nat.reduceEqDiff, Nat.reduceAdd, Nat.reduceMul, Nat.reduceSub, Int.reduceLT, Int.reduceLE, Int.reduceEq, Int.reduceNe, Int.reduceToNat, Int.reduceAdd, Int.reduceSub, Int.reduceMul, Int.reduceNeg, Int.reduceBEq, Int.reduceBNe, Nat.reduceBEq]
      exact ⟨_, rfl, rfl, (Keeps.app _ _).trans hk1⟩)
    · refine Br_split (fun e => ?_) (fun e => ?_)
      · simp only [go_sem, Nat.reduceLT, Nat.reduceLeDiff, Nat.reduceEqDiff, Nat.reduceAdd, Nat.reduceMul, Nat.reduceSub, Int.reduceLT, Int.reduceLE, Int.reduceEq, Int.reduceNe, Int.reduceToNat, Int.reduceAdd, Int.reduceSub, Int.reduceMul, Int.reduceNeg, Int.reduceBEq, Int.reduceBNe, Nat.reduceBEq]
        refine Pc_ofK (hex _) fun H1 hk1 => ?_
        simp only [go_sem, Nat.reduceLT, Nat.reduceLeDiff, Nat.reduceEqDiff, Nat.reduceAdd, Nat.reduceMul, Nat.reduceSub, Int.reduceLT, Int.reduceLE, Int.reduceEq, Int.reduceNe, Int.reduceToNat, Int.reduceAdd, Int.reduceSub, Int.reduceMul, Int.reduceNeg, Int.reduceBEq, Int.reduceBNe, Nat.reduceBEq]
        refine Po_add (by have := hexT_len d; simp; omega) ?_
        simp only [go_sem, Nat.reduceLT, Nat.reduceLeDiff, Nat.reduceEqDiff, Nat.reduceAdd, Nat.reduceMul, Nat.reduceSub, Int.reduceLT, Int.reduceLE, Int.reduceEq, Int.reduceNe, Int.reduceToNat, Int.reduceAdd, Int.reduceSub, Int.reduceMul, Int.reduceNeg, Int.reduceBEq, Int.reduceBNe, Nat.reduceBEq]
        exact ⟨_, rfl, by simp [sigT, sigN, e], (Keeps.app _ _).trans hk1⟩
      · simp only [go_sem, Nat.reduceLT, Nat.reduceLeDiff, Nat.reduceEqDiff, Nat.reduceAdd, Nat.reduceMul, Nat.reduceSub, Int.reduceLT, Int.reduceLE, Int.reduceEq, Int.reduceNe, Int.reduceToNat, Int.reduceAdd, Int.reduceSub, Int.reduceMul, Int.reduceNeg, Int.reduceBEq, Int.reduceBNe, Nat.reduceBEq]
        refine Pc_ofK (hex _) fun H1 hk1 => ?_
        simp only [go_sem, Nat.reduceLT, Nat.reduceLeDiff, Nat.reduceEqDiff, Nat.reduceAdd, Nat.reduceMul, Nat.reduceSub, Int.reduceLT, Int.reduceLE, Int.reduceEq, Int.reduceNe, Int.reduceToNat, Int.reduceAdd, Int.reduceSub, Int.reduceMul, Int.reduceNeg, Int.reduceBEq, Int.reduceBNe, Nat.reduceBEq]
        refine Po_add (by have := hexT_len d; simp; omega) ?_
        simp only [go_sem, Nat.reduceLT, Nat.reduceLeDiff, Nat.reduceEqDiff, Nat.reduceAdd, Nat.reduceMul, Nat.reduceSub, Int.reduceLT, Int.reduceLE, Int.reduceEq, Int.reduceNe, Int.reduceToNat, Int.reduceAdd, Int.reduceSub, Int.reduceMul, Int.reduceNeg, Int.reduceBEq, Int.reduceBNe, Nat.reduceBEq]
        exact ⟨_, rfl, by simp [sigT, sigN, e], (Keeps.app _ _).trans hk1⟩
    · have hgx := fun os => (Keeps.app h os).gl hg
      by_cases e : code = 86
      · have hz := itoaL_le n1 n2
        simp only [go_sem, Nat.reduceLT, Nat.reduceLeDiff, Nat.reduceEqDiff, Nat.reduceAdd, Nat.reduceMul, Nat.reduceSub, Int.reduceLT, Int.reduceLE, Int.reduceEq, Int.reduceNe, Int.reduceToNat, Int.reduceAdd, Int.reduceSub, Int.reduceMul, Int.reduceNeg, Int.reduceBEq, Int.reduceBNe, Nat.reduceBEq, code_eq, e, Pc_to (s_Itoa n _ (hgx _) n1 n2), bn_s_add [32] (itoaL n) (by simp; omega)]
        refine Po_add (by simp; omega) ?_
        simp only [go_sem, Nat.reduceLT, Nat.reduceLeDiff, Nat.reduceEqDiff, Nat.reduceAdd, Nat.reduceMul, Nat.reduceSub, Int.reduceLT, Int.reduceLE, Int.reduceEq, Int.reduceNe, Int.reduceToNat, Int.reduceAdd, Int.reduceSub, Int.reduceMul, Int.reduceNeg, Int.reduceBEq, Int.reduceBNe, Nat.reduceBEq]
        refine ⟨_, rfl, ?_, Keeps.app _ _⟩
        simp [sigT, sigN, e, byte_of]
      · simp only [go_sem, Nat.reduceLT, Nat.reduceLeDiff, Nat.reduceEqDiff, Nat.reduceAdd, Nat.reduceMul, Nat.reduceSub, Int.reduceLT, Int.reduceLE, Int.reduceEq, Int.reduceNe, Int.reduceToNat, Int.reduceAdd, Int.reduceSub, Int.reduceMul, Int.reduceNeg, Int.reduceBEq, Int.reduceBNe, Nat.reduceBEq, code_eq, e]
        refine ⟨_, rfl, ?_, Keeps.app _ _⟩
        simp [sigT, sigN, e, byte_of]
end Am
end Go.Proofs.YtjjkjfdojifchaaDoor
