/-
  THE DOCUMENT'S CONFIGURATIONS, AND THE PROGRAM'S MADE OF THEM (LinkConfigs).
  Conditions: none (lemmas; what is asked stands in each statement).
-/
import Derived.Test.YtcndgnddipbbgaaGreatLc1
set_option linter.unusedVariables false
set_option linter.unusedSimpArgs false
namespace Go.Proofs.YtcndgnddipbbgaaGreat
namespace Am
/-- Five ticks: a row. -/
def Tk (H : Heap) (v : V) (c : Cf) : Prop := ∃ id cap ro ty, v = .sl (some (id, 0)) 5 cap 1 ∧ H[id]? = some (.cells [.i .i64 c.t0, .i .i64 c.t1, .i .i64 c.t2, .i .i64 c.t3, .i .i64 c.t4] ro ty)
theorem Tk.fr {H H' : Heap} {v : V} {c : Cf} (k : Tk H v c) (F : Fr H [] H') : Tk H' v c := by
  obtain ⟨id, cap, ro, ty, e, g⟩ := k
  exact ⟨id, cap, ro, ty, e, F.get g (by simp)⟩
theorem dec_ff {p : Prop} [Decidable p] (h : ¬ p) : V.b false = V.b (decide p) := by rw [decide_eq_false h]
theorem dec_iff {p q : Prop} [Decidable p] [Decidable q] (h : p ↔ q) : V.b (decide p) = V.b (decide q) := by
  by_cases e : p
  · rw [decide_eq_true e, decide_eq_true (h.1 e)]
  · rw [decide_eq_false e, decide_eq_false (fun c => e (h.2 c))]
def Cf.rcs (c : Cf) (v : V) : List V := [.i .i64 c.most, .i .i64 c.win, .i .i64 c.queue, .i .i64 c.units, .i .i64 c.polls, .i .i64 c.start, v]
def Cf.own (c : Cf) : Cf := { c with start := nLow c.start }
theorem s_own15 {c : Cf} {h : Heap} {v : V} (hk : Tk h v c) : ∃ h', To M n_law15_Own [v] h (.g [.i .i64 c.t0, .i .i64 c.t1, .i .i64 c.t2, .i .i64 c.t3, .i .i64 c.t4]) h' ∧ Fr h [] h' := by
  obtain ⟨id, cap, ro, ty, rfl, g⟩ := hk
  have hl := lt_of g
  refine ex_of ?_
  refine To_body' rfl F_law15_Own (Nat.le_of_ble_eq_true rfl) ?_
  simp only [go_sem, Nat.reduceLT, Nat.reduceLeDiff, Nat.reduceEqDiff, Nat.reduceAdd, Nat.reduceMul, Nat.reduceSub, Int.reduceLT, Int.reduceLE, Int.reduceEq, Int.reduceNe, Int.reduceToNat, Int.reduceAdd, Int.reduceSub, Int.reduceMul, Int.reduceNeg, Int.reduceBEq, Int.reduceBNe, Nat.reduceBEq, b_law15_Own, g, hl, nel hl, nelk hl, nelr hl, nelkr hl, List.getElem?_append_left]
  exact ⟨_, rfl, rfl, (Fr.refl _ _).app _⟩
theorem s_own16 {c : Cf} {h : Heap} {v : V} (hk : Tk h v c) : ∃ h', To M n_law16_Own [.g (c.rcs v)] h (.g c.own.cs) h' ∧ Fr h [] h' := by
  have hk' := hk
  obtain ⟨id, cap, ro, ty, rfl, g⟩ := hk'
  refine ex_of ?_
  refine To_body' rfl F_law16_Own (Nat.le_of_ble_eq_true rfl) ?_
  simp only [go_sem, Nat.reduceLT, Nat.reduceLeDiff, Nat.reduceEqDiff, Nat.reduceAdd, Nat.reduceMul, Nat.reduceSub, Int.reduceLT, Int.reduceLE, Int.reduceEq, Int.reduceNe, Int.reduceToNat, Int.reduceAdd, Int.reduceSub, Int.reduceMul, Int.reduceNeg, Int.reduceBEq, Int.reduceBNe, Nat.reduceBEq, b_law16_Own, Cf.rcs, Pc_to (s_Of _ _)]
  refine Pc_ex (s_own15 (hk.fr ((Fr.refl _ _).app _))) fun H hF => ?_
  have g1 := hF.get (get_new _ 0) (by simp)
  have g2 := hF.get (get_new _ 1) (by simp)
  have hl2 := lt_of g2
  rw [Nat.add_zero] at g1
  simp only [go_sem, Nat.reduceLT, Nat.reduceLeDiff, Nat.reduceEqDiff, Nat.reduceAdd, Nat.reduceMul, Nat.reduceSub, Int.reduceLT, Int.reduceLE, Int.reduceEq, Int.reduceNe, Int.reduceToNat, Int.reduceAdd, Int.reduceSub, Int.reduceMul, Int.reduceNeg, Int.reduceBEq, Int.reduceBNe, Nat.reduceBEq, g1, g2, hl2]
  exact ⟨_, rfl, rfl, (Fr.app0 hF).set (.inr (by omega)) _⟩
theorem s_chk15 {c : Cf} {h : Heap} {v : V} (hk : Tk h v c) : ∃ h', To M n_ref15_Check [v] h (.b (decide (paceOk c.t0 c.t1 c.t2 c.t3 c.t4))) h' ∧ Fr h [] h' := by
  obtain ⟨id, cap, ro, ty, rfl, g⟩ := hk
  have hl := lt_of g
  refine ex_of ?_
  refine To_body' rfl F_ref15_Check (Nat.le_of_ble_eq_true rfl) ?_
  simp only [go_sem, Nat.reduceLT, Nat.reduceLeDiff, Nat.reduceEqDiff, Nat.reduceAdd, Nat.reduceMul, Nat.reduceSub, Int.reduceLT, Int.reduceLE, Int.reduceEq, Int.reduceNe, Int.reduceToNat, Int.reduceAdd, Int.reduceSub, Int.reduceMul, Int.reduceNeg, Int.reduceBEq, Int.reduceBNe, Nat.reduceBEq, b_ref15_Check, l_ref15_Check_0, Un_loop, Un_again, g, wrap_i64]
  repeat' (first | (refine Gd_splitN (fun e => ?_) (fun e => ?_) <;> simp only [go_sem, Nat.reduceLT, Nat.reduceLeDiff, Nat.reduceEqDiff, Nat.reduceAdd, Nat.reduceMul, Nat.reduceSub, Int.reduceLT, Int.reduceLE, Int.reduceEq, Int.reduceNe, Int.reduceToNat, Int.reduceAdd, Int.reduceSub, Int.reduceMul, Int.reduceNeg, Int.reduceBEq, Int.reduceBNe, Nat.reduceBEq, e, l_ref15_Check_0, Un_loop, Un_again, g, wrap_i64]) | (refine Gd_split (fun e => ?_) (fun e => ?_) <;> simp only [go_sem, Nat.reduceLT, Nat.reduceLeDiff, Nat.reduceEqDiff, Nat.reduceAdd, Nat.reduceMul, Nat.reduceSub, Int.reduceLT, Int.reduceLE, Int.reduceEq, Int.reduceNe, Int.reduceToNat, Int.reduceAdd, Int.reduceSub, Int.reduceMul, Int.reduceNeg, Int.reduceBEq, Int.reduceBNe, Nat.reduceBEq, e, l_ref15_Check_0, Un_loop, Un_again, g, wrap_i64]) | (refine Br_splitN (fun e => ?_) (fun e => ?_) <;> simp only [go_sem, Nat.reduceLT, Nat.reduceLeDiff, Nat.reduceEqDiff, Nat.reduceAdd, Nat.reduceMul, Nat.reduceSub, Int.reduceLT, Int.reduceLE, Int.reduceEq, Int.reduceNe, Int.reduceToNat, Int.reduceAdd, Int.reduceSub, Int.reduceMul, Int.reduceNeg, Int.reduceBEq, Int.reduceBNe, Nat.reduceBEq, e, l_ref15_Check_0, Un_loop, Un_again, g, wrap_i64]) | (refine Br_split (fun e => ?_) (fun e => ?_) <;> simp only [go_sem, Nat.reduceLT, Nat.reduceLeDiff, Nat.reduceEqDiff, Nat.reduceAdd, Nat.reduceMul, Nat.reduceSub, Int.reduceLT, Int.reduceLE, Int.reduceEq, Int.reduceNe, Int.reduceToNat, Int.reduceAdd, Int.reduceSub, Int.reduceMul, Int.reduceNeg, Int.reduceBEq, Int.reduceBNe, Nat.reduceBEq, e, l_ref15_Check_0, Un_loop, Un_again, g, wrap_i64]))
  all_goals refine ⟨_, rfl, ?_, ?_⟩
  any_goals exact Fr.refl _ _
  all_goals simp only [decide_eq_true_eq, decide_eq_false_iff_not] at *
  all_goals first | refine dec_ff ?_ | refine dec_iff ?_
  all_goals unfold paceOk
  all_goals omega
def Cf.okR (c : Cf) : Prop := ((1 ≤ c.most ∧ c.most ≤ 16) ∧ (1 ≤ c.win ∧ c.win ≤ 64) ∧ (1 ≤ c.queue ∧ c.queue ≤ 256) ∧ (1 ≤ c.units ∧ c.units ≤ 64) ∧ (1 ≤ c.polls ∧ c.polls ≤ 256) ∧ (0 ≤ c.start ∧ c.start ≤ 16777215)) ∧ paceOk c.t0 c.t1 c.t2 c.t3 c.t4
instance (c : Cf) : Decidable c.okR := by unfold Cf.okR; infer_instance
theorem s_chk16 {c : Cf} {h : Heap} {v : V} (hk : Tk h v c) : ∃ h', To M n_ref16_Check [.g (c.rcs v)] h (.b (decide c.okR)) h' ∧ Fr h [] h' := by
  have hk' := hk
  obtain ⟨id, cap, ro, ty, rfl, g⟩ := hk'
  refine ex_of ?_
  refine To_body' rfl F_ref16_Check (Nat.le_of_ble_eq_true rfl) ?_
  simp only [go_sem, Nat.reduceLT, Nat.reduceLeDiff, Nat.reduceEqDiff, Nat.reduceAdd, Nat.reduceMul, Nat.reduceSub, Int.reduceLT, Int.reduceLE, Int.reduceEq, Int.reduceNe, Int.reduceToNat, Int.reduceAdd, Int.reduceSub, Int.reduceMul, Int.reduceNeg, Int.reduceBEq, Int.reduceBNe, Nat.reduceBEq, b_ref16_Check, Cf.rcs]
  repeat' (first | (refine Gd_splitN (fun e => ?_) (fun e => ?_) <;> simp only [go_sem, Nat.reduceLT, Nat.reduceLeDiff, Nat.reduceEqDiff, Nat.reduceAdd, Nat.reduceMul, Nat.reduceSub, Int.reduceLT, Int.reduceLE, Int.reduceEq, Int.reduceNe, Int.reduceToNat, Int.reduceAdd, Int.reduceSub, Int.reduceMul, Int.reduceNeg, Int.reduceBEq, Int.reduceBNe, Nat.reduceBEq, e]) | (refine Gd_split (fun e => ?_) (fun e => ?_) <;> simp only [go_sem, Nat.reduceLT, Nat.reduceLeDiff, Nat.reduceEqDiff, Nat.reduceAdd, Nat.reduceMul, Nat.reduceSub, Int.reduceLT, Int.reduceLE, Int.reduceEq, Int.reduceNe, Int.reduceToNat, Int.reduceAdd, Int.reduceSub, Int.reduceMul, Int.reduceNeg, Int.reduceBEq, Int.reduceBNe, Nat.reduceBEq, e]) | (refine Br_splitN (fun e => ?_) (fun e => ?_) <;> simp only [go_sem, Nat.reduceLT, Nat.reduceLeDiff, Nat.reduceEqDiff, Nat.reduceAdd, Nat.reduceMul, Nat.reduceSub, Int.reduceLT, Int.reduceLE, Int.reduceEq, Int.reduceNe, Int.reduceToNat, Int.reduceAdd, Int.reduceSub, Int.reduceMul, Int.reduceNeg, Int.reduceBEq, Int.reduceBNe, Nat.reduceBEq, e]) | (refine Br_split (fun e => ?_) (fun e => ?_) <;> simp only [go_sem, Nat.reduceLT, Nat.reduceLeDiff, Nat.reduceEqDiff, Nat.reduceAdd, Nat.reduceMul, Nat.reduceSub, Int.reduceLT, Int.reduceLE, Int.reduceEq, Int.reduceNe, Int.reduceToNat, Int.reduceAdd, Int.reduceSub, Int.reduceMul, Int.reduceNeg, Int.reduceBEq, Int.reduceBNe, Nat.reduceBEq, e]) | ((refine Pc_ex (s_chk15 (hk.fr ((Fr.refl _ _).app _))) fun H hF => ?_); simp only [go_sem, Nat.reduceLT, Nat.reduceLeDiff, Nat.reduceEqDiff, Nat.reduceAdd, Nat.reduceMul, Nat.reduceSub, Int.reduceLT, Int.reduceLE, Int.reduceEq, Int.reduceNe, Int.reduceToNat, Int.reduceAdd, Int.reduceSub, Int.reduceMul, Int.reduceNeg, Int.reduceBEq, Int.reduceBNe, Nat.reduceBEq]))
  all_goals refine ⟨_, rfl, ?_, ?_⟩
  any_goals exact (Fr.refl _ _).app _
  any_goals exact Fr.app0 ‹_›
  all_goals simp only [decide_eq_true_eq, decide_eq_false_iff_not, gt_iff_lt] at *
  all_goals first | refine dec_ff ?_ | refine dec_iff ?_
  all_goals unfold Cf.okR
  all_goals first | (refine ⟨fun q => ⟨?_, q⟩, fun q => q.2⟩; omega) | omega
/-- Both ends' configurations. -/
theorem s_own {a b : Cf} {va vb : V} {h : Heap} {room : Int} (ha : Tk h va a) (hb : Tk h vb b) : ∃ h', To M n_law18_Config_Own [.g (a.rcs va ++ b.rcs vb ++ [.i .i64 room])] h (.g (a.own.cs ++ b.own.cs ++ [.i .i64 room])) h' ∧ Fr h [] h' := by
  have ha' := ha
  have hb' := hb
  obtain ⟨id, cap, ro, ty, rfl, g⟩ := ha'
  obtain ⟨id', cap', ro', ty', rfl, g'⟩ := hb'
  refine ex_of ?_
  refine To_body' rfl F_law18_Config_Own (Nat.le_of_ble_eq_true rfl) ?_
  simp only [go_sem, Nat.reduceLT, Nat.reduceLeDiff, Nat.reduceEqDiff, Nat.reduceAdd, Nat.reduceMul, Nat.reduceSub, Int.reduceLT, Int.reduceLE, Int.reduceEq, Int.reduceNe, Int.reduceToNat, Int.reduceAdd, Int.reduceSub, Int.reduceMul, Int.reduceNeg, Int.reduceBEq, Int.reduceBNe, Nat.reduceBEq, b_law18_Config_Own, Cf.rcs]
  refine Pc_ex (s_own16 (c := a) (ha.fr ((Fr.refl _ _).app _))) fun H hF => ?_
  have g1 := hF.get (get_new _ 0) (by simp)
  have g2 := hF.get (get_new _ 1) (by simp)
  rw [Nat.add_zero] at g1
  simp only [go_sem, Nat.reduceLT, Nat.reduceLeDiff, Nat.reduceEqDiff, Nat.reduceAdd, Nat.reduceMul, Nat.reduceSub, Int.reduceLT, Int.reduceLE, Int.reduceEq, Int.reduceNe, Int.reduceToNat, Int.reduceAdd, Int.reduceSub, Int.reduceMul, Int.reduceNeg, Int.reduceBEq, Int.reduceBNe, Nat.reduceBEq, g1, g2, Cf.cs]
  refine Pc_ex (s_own16 (c := b) (hb.fr (Fr.app0 hF))) fun H2 hF2 => ?_
  have g3 := hF2.get g1 (by simp)
  have g4 := hF2.get g2 (by simp)
  have hl4 := lt_of g4
  simp only [go_sem, Nat.reduceLT, Nat.reduceLeDiff, Nat.reduceEqDiff, Nat.reduceAdd, Nat.reduceMul, Nat.reduceSub, Int.reduceLT, Int.reduceLE, Int.reduceEq, Int.reduceNe, Int.reduceToNat, Int.reduceAdd, Int.reduceSub, Int.reduceMul, Int.reduceNeg, Int.reduceBEq, Int.reduceBNe, Nat.reduceBEq, g1, g3, g4, hl4, Cf.cs, sameL, same, beq_self_eq_true, Bool.and_self, decide_true]
  exact ⟨_, rfl, rfl, ((Fr.app0 hF).trans hF2 (by simp)).set (.inr (by omega)) _⟩
end Am
end Go.Proofs.YtcndgnddipbbgaaGreat
