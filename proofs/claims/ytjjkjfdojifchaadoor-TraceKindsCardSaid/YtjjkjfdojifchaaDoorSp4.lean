/-
  WHAT THE FUNCTIONS COME TO, part 4: which units may be, by the program: a unit may be where the document's may.
  Conditions: none.
-/
import Derived.Test.YtjjkjfdojifchaaDoorSp3
set_option linter.unusedVariables false
set_option linter.unusedSimpArgs false
namespace Go.Proofs.YtjjkjfdojifchaaDoor
namespace Am
set_option maxHeartbeats 8000000 in
theorem s_pCheck (u : U) (h : Heap) (a : Option (Nat × Nat)) (c : Option Nat) (z : Nat) (hR : R1 h a z (u.list.map (.i .u32))) (hL : u.list.length ≤ 1000000) (hN : W32 u.n) (hP : W32 u.ps) (hM : W32 u.mr) (hl : ∀ x ∈ u.list, W32 x) :
    ∃ v h', To M n_pdu_PDU_Check [uV u a c z] h v h' ∧ ∃ e os, v = .i .i64 e ∧ h' = h ++ os ∧ (e = 0 ↔ okU u) := by
  refine To_body' rfl F_pdu_PDU_Check (Nat.le_of_ble_eq_true rfl) ?_
  obtain ⟨kind, sq, n, ps, mr, list, self, data⟩ := u
  simp only at hR hL hN hP hM hl
  have n1 := low_iff hN
  have n2 := low_iff hP
  have n3 := low_iff hM
  have n4 : (∃ x ∈ list, x ≠ lo x) ↔ ¬ ∀ x ∈ list, lowI x := by
    constructor
    · rintro ⟨x, h1, h2⟩ h3; exact h2 ((low_iff (hl x h1)).2 (h3 x h1))
    · intro h3
      apply Classical.byContradiction
      intro h4
      exact h3 fun x hx => (low_iff (hl x hx)).1 (Classical.byContradiction fun h5 => h4 ⟨x, hx, h5⟩)
  rcases kinds kind with hk | hk
  · rcases hk with rfl | rfl | rfl | rfl | rfl | rfl | rfl | rfl | rfl | rfl | rfl | rfl | rfl | rfl | rfl
    all_goals simp only [go_sem, Nat.reduceLT, Nat.reduceLeDiff, Nat.reduceEqDiff, Nat.reduceAdd, Nat.reduceMul, Nat.reduceSub, Int.reduceLT, Int.reduceLE, Int.reduceEq, Int.reduceNe, Int.reduceToNat, Int.reduceAdd, Int.reduceSub, Int.reduceMul, Int.reduceNeg, Int.reduceBEq, Int.reduceBNe, Nat.reduceBEq, b_pdu_PDU_Check, uV]
    all_goals (refine Pc_ofG (s_shapeOf _ _) fun os => ?_; simp only [go_sem, Nat.reduceLT, Nat.reduceLeDiff, Nat.reduceEqDiff, Nat.reduceAdd, Nat.reduceMul, Nat.reduceSub, Int.reduceLT, Int.reduceLE, Int.reduceEq, Int.reduceNe, Int.reduceToNat, Int.reduceAdd, Int.reduceSub, Int.reduceMul, Int.reduceNeg, Int.reduceBEq, Int.reduceBNe, Nat.reduceBEq, shp])
    all_goals (repeat' (first | (refine Gd_splitN (fun e => ?_) (fun e => ?_) <;> simp only [go_sem, Nat.reduceLT, Nat.reduceLeDiff, Nat.reduceEqDiff, Nat.reduceAdd, Nat.reduceMul, Nat.reduceSub, Int.reduceLT, Int.reduceLE, Int.reduceEq, Int.reduceNe, Int.reduceToNat, Int.reduceAdd, Int.reduceSub, Int.reduceMul, Int.reduceNeg, Int.reduceBEq, Int.reduceBNe, Nat.reduceBEq, e]) | (refine Gd_split (fun e => ?_) (fun e => ?_) <;> simp only [go_sem, Nat.reduceLT, Nat.reduceLeDiff, Nat.reduceEqDiff, Nat.reduceAdd, Nat.reduceMul, Nat.reduceSub, Int.reduceLT, Int.reduceLE, Int.reduceEq, Int.reduceNe, Int.reduceToNat, Int.reduceAdd, Int.reduceSub, Int.reduceMul, Int.reduceNeg, Int.reduceBEq, Int.reduceBNe, Nat.reduceBEq, e]) | (refine Br_splitN (fun e => ?_) (fun e => ?_) <;> simp only [go_sem, Nat.reduceLT, Nat.reduceLeDiff, Nat.reduceEqDiff, Nat.reduceAdd, Nat.reduceMul, Nat.reduceSub, Int.reduceLT, Int.reduceLE, Int.reduceEq, Int.reduceNe, Int.reduceToNat, Int.reduceAdd, Int.reduceSub, Int.reduceMul, Int.reduceNeg, Int.reduceBEq, Int.reduceBNe, Nat.reduceBEq, e]) | (refine Br_split (fun e => ?_) (fun e => ?_) <;> simp only [go_sem, Nat.reduceLT, Nat.reduceLeDiff, Nat.reduceEqDiff, Nat.reduceAdd, Nat.reduceMul, Nat.reduceSub, Int.reduceLT, Int.reduceLE, Int.reduceEq, Int.reduceNe, Int.reduceToNat, Int.reduceAdd, Int.reduceSub, Int.reduceMul, Int.reduceNeg, Int.reduceBEq, Int.reduceBNe, Nat.reduceBEq, e])))
    all_goals try (refine ⟨_, rfl, _, _, rfl, rfl, ?_⟩; first | grind [okU, most, lowI, List.length_eq_zero_iff] | (simp only [decide_eq_true_eq, decide_eq_false_iff_not] at *; simp_all [okU, most] <;> omega))
    all_goals (
      refine Pc_cutF (fun j => j < 50 ∧ j ≠ 5) (fun g' => g' 5 = .b (decide (lowI n ∧ lowI ps ∧ lowI mr ∧ ∀ x ∈ list, lowI x))) ?_ ?_
      · simp only [go_sem, Nat.reduceLT, Nat.reduceLeDiff, Nat.reduceEqDiff, Nat.reduceAdd, Nat.reduceMul, Nat.reduceSub, Int.reduceLT, Int.reduceLE, Int.reduceEq, Int.reduceNe, Int.reduceToNat, Int.reduceAdd, Int.reduceSub, Int.reduceMul, Int.reduceNeg, Int.reduceBEq, Int.reduceBNe, Nat.reduceBEq, Pc_to (s_plow _ _)]
        repeat' (first | (refine Gd_splitN (fun e => ?_) (fun e => ?_) <;> simp only [go_sem, Nat.reduceLT, Nat.reduceLeDiff, Nat.reduceEqDiff, Nat.reduceAdd, Nat.reduceMul, Nat.reduceSub, Int.reduceLT, Int.reduceLE, Int.reduceEq, Int.reduceNe, Int.reduceToNat, Int.reduceAdd, Int.reduceSub, Int.reduceMul, Int.reduceNeg, Int.reduceBEq, Int.reduceBNe, Nat.reduceBEq, e, Pc_to (s_plow _ _)]) | (refine Gd_split (fun e => ?_) (fun e => ?_) <;> simp only [go_sem, Nat.reduceLT, Nat.reduceLeDiff, Nat.reduceEqDiff, Nat.reduceAdd, Nat.reduceMul, Nat.reduceSub, Int.reduceLT, Int.reduceLE, Int.reduceEq, Int.reduceNe, Int.reduceToNat, Int.reduceAdd, Int.reduceSub, Int.reduceMul, Int.reduceNeg, Int.reduceBEq, Int.reduceBNe, Nat.reduceBEq, e, Pc_to (s_plow _ _)]) | (refine Br_splitN (fun e => ?_) (fun e => ?_) <;> simp only [go_sem, Nat.reduceLT, Nat.reduceLeDiff, Nat.reduceEqDiff, Nat.reduceAdd, Nat.reduceMul, Nat.reduceSub, Int.reduceLT, Int.reduceLE, Int.reduceEq, Int.reduceNe, Int.reduceToNat, Int.reduceAdd, Int.reduceSub, Int.reduceMul, Int.reduceNeg, Int.reduceBEq, Int.reduceBNe, Nat.reduceBEq, e, Pc_to (s_plow _ _)]) | (refine Br_split (fun e => ?_) (fun e => ?_) <;> simp only [go_sem, Nat.reduceLT, Nat.reduceLeDiff, Nat.reduceEqDiff, Nat.reduceAdd, Nat.reduceMul, Nat.reduceSub, Int.reduceLT, Int.reduceLE, Int.reduceEq, Int.reduceNe, Int.reduceToNat, Int.reduceAdd, Int.reduceSub, Int.reduceMul, Int.reduceNeg, Int.reduceBEq, Int.reduceBNe, Nat.reduceBEq, e, Pc_to (s_plow _ _)]) | (refine Pc_of (s_ctf list _ a c z _ (hR.keeps (Keeps.app _ _)) hL rfl) ?_; simp only [go_sem, Nat.reduceLT, Nat.reduceLeDiff, Nat.reduceEqDiff, Nat.reduceAdd, Nat.reduceMul, Nat.reduceSub, Int.reduceLT, Int.reduceLE, Int.reduceEq, Int.reduceNe, Int.reduceToNat, Int.reduceAdd, Int.reduceSub, Int.reduceMul, Int.reduceNeg, Int.reduceBEq, Int.reduceBNe, Nat.reduceBEq]))
        all_goals (
          refine ⟨_, rfl, fun j hj => ?_, ?_⟩
          · simp only [up]
            repeat rw [if_neg (by omega)]
          · simp only [go_sem, Nat.reduceLT, Nat.reduceLeDiff, Nat.reduceEqDiff, Nat.reduceAdd, Nat.reduceMul, Nat.reduceSub, Int.reduceLT, Int.reduceLE, Int.reduceEq, Int.reduceNe, Int.reduceToNat, Int.reduceAdd, Int.reduceSub, Int.reduceMul, Int.reduceNeg, Int.reduceBEq, Int.reduceBNe, Nat.reduceBEq]
            grind)
      · intro g' hk h5
        simp only [go_sem, Nat.reduceLT, Nat.reduceLeDiff, Nat.reduceEqDiff, Nat.reduceAdd, Nat.reduceMul, Nat.reduceSub, Int.reduceLT, Int.reduceLE, Int.reduceEq, Int.reduceNe, Int.reduceToNat, Int.reduceAdd, Int.reduceSub, Int.reduceMul, Int.reduceNeg, Int.reduceBEq, Int.reduceBNe, Nat.reduceBEq, hk, h5]
        repeat' (first | (refine Gd_splitN (fun e => ?_) (fun e => ?_) <;> simp only [go_sem, Nat.reduceLT, Nat.reduceLeDiff, Nat.reduceEqDiff, Nat.reduceAdd, Nat.reduceMul, Nat.reduceSub, Int.reduceLT, Int.reduceLE, Int.reduceEq, Int.reduceNe, Int.reduceToNat, Int.reduceAdd, Int.reduceSub, Int.reduceMul, Int.reduceNeg, Int.reduceBEq, Int.reduceBNe, Nat.reduceBEq, e, hk, h5]) | (refine Gd_split (fun e => ?_) (fun e => ?_) <;> simp only [go_sem, Nat.reduceLT, Nat.reduceLeDiff, Nat.reduceEqDiff, Nat.reduceAdd, Nat.reduceMul, Nat.reduceSub, Int.reduceLT, Int.reduceLE, Int.reduceEq, Int.reduceNe, Int.reduceToNat, Int.reduceAdd, Int.reduceSub, Int.reduceMul, Int.reduceNeg, Int.reduceBEq, Int.reduceBNe, Nat.reduceBEq, e, hk, h5]) | (refine Br_splitN (fun e => ?_) (fun e => ?_) <;> simp only [go_sem, Nat.reduceLT, Nat.reduceLeDiff, Nat.reduceEqDiff, Nat.reduceAdd, Nat.reduceMul, Nat.reduceSub, Int.reduceLT, Int.reduceLE, Int.reduceEq, Int.reduceNe, Int.reduceToNat, Int.reduceAdd, Int.reduceSub, Int.reduceMul, Int.reduceNeg, Int.reduceBEq, Int.reduceBNe, Nat.reduceBEq, e, hk, h5]) | (refine Br_split (fun e => ?_) (fun e => ?_) <;> simp only [go_sem, Nat.reduceLT, Nat.reduceLeDiff, Nat.reduceEqDiff, Nat.reduceAdd, Nat.reduceMul, Nat.reduceSub, Int.reduceLT, Int.reduceLE, Int.reduceEq, Int.reduceNe, Int.reduceToNat, Int.reduceAdd, Int.reduceSub, Int.reduceMul, Int.reduceNeg, Int.reduceBEq, Int.reduceBNe, Nat.reduceBEq, e, hk, h5]))
        all_goals (refine ⟨_, rfl, _, _, rfl, rfl, ?_⟩; first | grind [okU, most, lowI, List.length_eq_zero_iff] | (clear hk h5 n1 n2 n3 n4 hN hP hM hl; simp only [decide_eq_true_eq, decide_eq_false_iff_not] at *; simp_all [okU, most] <;> omega)))
  · simp only [go_sem, Nat.reduceLT, Nat.reduceLeDiff, Nat.reduceEqDiff, Nat.reduceAdd, Nat.reduceMul, Nat.reduceSub, Int.reduceLT, Int.reduceLE, Int.reduceEq, Int.reduceNe, Int.reduceToNat, Int.reduceAdd, Int.reduceSub, Int.reduceMul, Int.reduceNeg, Int.reduceBEq, Int.reduceBNe, Nat.reduceBEq, b_pdu_PDU_Check, uV]
    refine Pc_ofG (s_shapeOf _ _) fun os => ?_
    simp only [go_sem, Nat.reduceLT, Nat.reduceLeDiff, Nat.reduceEqDiff, Nat.reduceAdd, Nat.reduceMul, Nat.reduceSub, Int.reduceLT, Int.reduceLE, Int.reduceEq, Int.reduceNe, Int.reduceToNat, Int.reduceAdd, Int.reduceSub, Int.reduceMul, Int.reduceNeg, Int.reduceBEq, Int.reduceBNe, Nat.reduceBEq, shp, hk]
    refine ⟨_, rfl, _, _, rfl, rfl, ?_⟩
    grind [okU]
end Am
end Go.Proofs.YtjjkjfdojifchaaDoor
