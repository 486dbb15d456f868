/-
  WHAT A LINK IS MADE OF (LinkConfigs): configurations checked, ends made.
  Conditions: none (lemmas; what is asked stands in each statement).
-/
import Derived.Test.YtcndgnddipbbgaaGreatLk0
set_option linter.unusedVariables false
set_option linter.unusedSimpArgs false
namespace Go.Proofs.YtcndgnddipbbgaaGreat
namespace Am
def paceOk (t0 t1 t2 t3 t4 : Int) : Prop := (1 ≤ t0 ∧ t0 ≤ 1048576) ∧ (1 ≤ t1 ∧ t1 ≤ 1048576) ∧ (1 ≤ t2 ∧ t2 ≤ 1048576) ∧ (1 ≤ t3 ∧ t3 ≤ 1048576) ∧ (1 ≤ t4 ∧ t4 ≤ 1048576) ∧ t1 < t3 ∧ t2 < t3
instance (t0 t1 t2 t3 t4 : Int) : Decidable (paceOk t0 t1 t2 t3 t4) := by unfold paceOk; infer_instance
theorem s_paceCheck (t0 t1 t2 t3 t4 : Int) (h : Heap) : ∃ h', To M n_pace_Config_Check [.g [.i .i64 t0, .i .i64 t1, .i .i64 t2, .i .i64 t3, .i .i64 t4]] h (.i .i64 (if paceOk t0 t1 t2 t3 t4 then 0 else 1)) h' ∧ Fr h [] h' := by
  refine ex_of ?_
  refine To_body' rfl F_pace_Config_Check (Nat.le_of_ble_eq_true rfl) ?_
  simp only [go_sem, Nat.reduceLT, Nat.reduceLeDiff, Nat.reduceEqDiff, Nat.reduceAdd, Nat.reduceMul, Nat.reduceSub, Int.reduceLT, Int.reduceLE, Int.reduceEq, Int.reduceNe, Int.reduceToNat, Int.reduceAdd, Int.reduceSub, Int.reduceMul, Int.reduceNeg, Int.reduceBEq, Int.reduceBNe, Nat.reduceBEq, b_pace_Config_Check, l_pace_Config_Check_0, Un_loop, Un_again, wrap_i64]
  repeat' (first | (refine Gd_splitN (fun e => ?_) (fun e => ?_) <;> simp only [go_sem, Nat.reduceLT, Nat.reduceLeDiff, Nat.reduceEqDiff, Nat.reduceAdd, Nat.reduceMul, Nat.reduceSub, Int.reduceLT, Int.reduceLE, Int.reduceEq, Int.reduceNe, Int.reduceToNat, Int.reduceAdd, Int.reduceSub, Int.reduceMul, Int.reduceNeg, Int.reduceBEq, Int.reduceBNe, Nat.reduceBEq, e, l_pace_Config_Check_0, Un_loop, Un_again, wrap_i64]) | (refine Gd_split (fun e => ?_) (fun e => ?_) <;> simp only [go_sem, Nat.reduceLT, Nat.reduceLeDiff, Nat.reduceEqDiff, Nat.reduceAdd, Nat.reduceMul, Nat.reduceSub, Int.reduceLT, Int.reduceLE, Int.reduceEq, Int.reduceNe, Int.reduceToNat, Int.reduceAdd, Int.reduceSub, Int.reduceMul, Int.reduceNeg, Int.reduceBEq, Int.reduceBNe, Nat.reduceBEq, e, l_pace_Config_Check_0, Un_loop, Un_again, wrap_i64]) | (refine Br_splitN (fun e => ?_) (fun e => ?_) <;> simp only [go_sem, Nat.reduceLT, Nat.reduceLeDiff, Nat.reduceEqDiff, Nat.reduceAdd, Nat.reduceMul, Nat.reduceSub, Int.reduceLT, Int.reduceLE, Int.reduceEq, Int.reduceNe, Int.reduceToNat, Int.reduceAdd, Int.reduceSub, Int.reduceMul, Int.reduceNeg, Int.reduceBEq, Int.reduceBNe, Nat.reduceBEq, e, l_pace_Config_Check_0, Un_loop, Un_again, wrap_i64]) | (refine Br_split (fun e => ?_) (fun e => ?_) <;> simp only [go_sem, Nat.reduceLT, Nat.reduceLeDiff, Nat.reduceEqDiff, Nat.reduceAdd, Nat.reduceMul, Nat.reduceSub, Int.reduceLT, Int.reduceLE, Int.reduceEq, Int.reduceNe, Int.reduceToNat, Int.reduceAdd, Int.reduceSub, Int.reduceMul, Int.reduceNeg, Int.reduceBEq, Int.reduceBNe, Nat.reduceBEq, e, l_pace_Config_Check_0, Un_loop, Un_again, wrap_i64]))
  all_goals refine ⟨_, rfl, ?_, by repeat' (first | exact Fr.refl _ _ | refine Fr.set ?_ (by simp) _ | refine Fr.app ?_ _)⟩
  all_goals simp only [decide_eq_true_eq, decide_eq_false_iff_not] at *
  all_goals (split <;> rename_i hc <;> first | rfl | (exfalso; unfold paceOk at hc; omega))
theorem Fr.app0 {h os H : Heap} (k : Fr (h ++ os) [] H) : Fr h [] H := ((Fr.refl h []).app os).trans k (fun i hi => by cases hi)
theorem if_same {p q : Prop} [Decidable p] [Decidable q] (h : p ↔ q) : V.i .i64 (if p then 0 else 1) = V.i .i64 (if q then 0 else 1) := by
  by_cases e : p
  · rw [if_pos e, if_pos (h.1 e)]
  · rw [if_neg e, if_neg (fun c => e (h.2 c))]
structure Cf where
  most : Int
  win : Int
  queue : Int
  units : Int
  polls : Int
  start : Int
  t0 : Int
  t1 : Int
  t2 : Int
  t3 : Int
  t4 : Int
def Cf.cs (c : Cf) : List V := [.i .i64 c.most, .i .i64 c.win, .i .i64 c.queue, .i .i64 c.units, .i .i64 c.polls, .i .u32 c.start, .i .i64 c.t0, .i .i64 c.t1, .i .i64 c.t2, .i .i64 c.t3, .i .i64 c.t4]
def Cf.pre (c : Cf) : Prop := (1 ≤ c.most ∧ c.most ≤ 16) ∧ (1 ≤ c.win ∧ c.win ≤ 64) ∧ (1 ≤ c.queue ∧ c.queue ≤ 256) ∧ (1 ≤ c.units ∧ c.units ≤ 64) ∧ (1 ≤ c.polls ∧ c.polls ≤ 256) ∧ c.start = nLow c.start
def Cf.ok (c : Cf) : Prop := c.pre ∧ paceOk c.t0 c.t1 c.t2 c.t3 c.t4
instance (c : Cf) : Decidable c.pre := by unfold Cf.pre; infer_instance
instance (c : Cf) : Decidable c.ok := by unfold Cf.ok; infer_instance
theorem s_in (x m : Int) (h : Heap) : To M n_node_Config_Check_1 [.i .i64 x, .i .i64 m] h (.b (decide (1 ≤ x ∧ x ≤ m))) h := by
  refine To_body rfl F_node_Config_Check_1 (Nat.le_of_ble_eq_true rfl) ?_
  by_cases e : 1 ≤ x
  · simp only [go_sem, Nat.reduceLT, Nat.reduceLeDiff, Nat.reduceEqDiff, Nat.reduceAdd, Nat.reduceMul, Nat.reduceSub, Int.reduceLT, Int.reduceLE, Int.reduceEq, Int.reduceNe, Int.reduceToNat, Int.reduceAdd, Int.reduceSub, Int.reduceMul, Int.reduceNeg, Int.reduceBEq, Int.reduceBNe, Nat.reduceBEq, b_node_Config_Check_1, e, ge_iff_le, decide_true]
  · simp only [go_sem, Nat.reduceLT, Nat.reduceLeDiff, Nat.reduceEqDiff, Nat.reduceAdd, Nat.reduceMul, Nat.reduceSub, Int.reduceLT, Int.reduceLE, Int.reduceEq, Int.reduceNe, Int.reduceToNat, Int.reduceAdd, Int.reduceSub, Int.reduceMul, Int.reduceNeg, Int.reduceBEq, Int.reduceBNe, Nat.reduceBEq, b_node_Config_Check_1, e, ge_iff_le, decide_false]
theorem s_nodeCheck (c : Cf) (h : Heap) : ∃ h', To M n_node_Config_Check [.g c.cs] h (.i .i64 (if c.ok then 0 else 1)) h' ∧ Fr h [] h' := by
  refine ex_of ?_
  unfold Cf.cs
  refine To_body' rfl F_node_Config_Check (Nat.le_of_ble_eq_true rfl) ?_
  simp only [go_sem, Nat.reduceLT, Nat.reduceLeDiff, Nat.reduceEqDiff, Nat.reduceAdd, Nat.reduceMul, Nat.reduceSub, Int.reduceLT, Int.reduceLE, Int.reduceEq, Int.reduceNe, Int.reduceToNat, Int.reduceAdd, Int.reduceSub, Int.reduceMul, Int.reduceNeg, Int.reduceBEq, Int.reduceBNe, Nat.reduceBEq, b_node_Config_Check, Pc_to (s_in _ _ _), Pc_to (s_Low _ _), wrap_i64]
  repeat' (first | (refine Gd_splitN (fun e => ?_) (fun e => ?_) <;> simp only [go_sem, Nat.reduceLT, Nat.reduceLeDiff, Nat.reduceEqDiff, Nat.reduceAdd, Nat.reduceMul, Nat.reduceSub, Int.reduceLT, Int.reduceLE, Int.reduceEq, Int.reduceNe, Int.reduceToNat, Int.reduceAdd, Int.reduceSub, Int.reduceMul, Int.reduceNeg, Int.reduceBEq, Int.reduceBNe, Nat.reduceBEq, e, Pc_to (s_in _ _ _), Pc_to (s_Low _ _), wrap_i64]) | (refine Gd_split (fun e => ?_) (fun e => ?_) <;> simp only [go_sem, Nat.reduceLT, Nat.reduceLeDiff, Nat.reduceEqDiff, Nat.reduceAdd, Nat.reduceMul, Nat.reduceSub, Int.reduceLT, Int.reduceLE, Int.reduceEq, Int.reduceNe, Int.reduceToNat, Int.reduceAdd, Int.reduceSub, Int.reduceMul, Int.reduceNeg, Int.reduceBEq, Int.reduceBNe, Nat.reduceBEq, e, Pc_to (s_in _ _ _), Pc_to (s_Low _ _), wrap_i64]) | (refine Br_splitN (fun e => ?_) (fun e => ?_) <;> simp only [go_sem, Nat.reduceLT, Nat.reduceLeDiff, Nat.reduceEqDiff, Nat.reduceAdd, Nat.reduceMul, Nat.reduceSub, Int.reduceLT, Int.reduceLE, Int.reduceEq, Int.reduceNe, Int.reduceToNat, Int.reduceAdd, Int.reduceSub, Int.reduceMul, Int.reduceNeg, Int.reduceBEq, Int.reduceBNe, Nat.reduceBEq, e, Pc_to (s_in _ _ _), Pc_to (s_Low _ _), wrap_i64]) | (refine Br_split (fun e => ?_) (fun e => ?_) <;> simp only [go_sem, Nat.reduceLT, Nat.reduceLeDiff, Nat.reduceEqDiff, Nat.reduceAdd, Nat.reduceMul, Nat.reduceSub, Int.reduceLT, Int.reduceLE, Int.reduceEq, Int.reduceNe, Int.reduceToNat, Int.reduceAdd, Int.reduceSub, Int.reduceMul, Int.reduceNeg, Int.reduceBEq, Int.reduceBNe, Nat.reduceBEq, e, Pc_to (s_in _ _ _), Pc_to (s_Low _ _), wrap_i64]) | ((refine Pc_ex (s_paceCheck _ _ _ _ _ _) fun H hF => ?_); simp only [go_sem, Nat.reduceLT, Nat.reduceLeDiff, Nat.reduceEqDiff, Nat.reduceAdd, Nat.reduceMul, Nat.reduceSub, Int.reduceLT, Int.reduceLE, Int.reduceEq, Int.reduceNe, Int.reduceToNat, Int.reduceAdd, Int.reduceSub, Int.reduceMul, Int.reduceNeg, Int.reduceBEq, Int.reduceBNe, Nat.reduceBEq]))
  all_goals refine ⟨_, rfl, ?_, ?_⟩
  any_goals exact (Fr.refl _ _).app _
  any_goals exact Fr.app0 ‹_›
  all_goals simp only [decide_eq_true_eq, decide_eq_false_iff_not] at *
  all_goals first | (refine if_same (by unfold Cf.ok Cf.pre; exact ⟨fun q => ⟨by omega, q⟩, fun q => q.2⟩); done) | (split <;> rename_i hc <;> first | rfl | (exfalso; unfold Cf.ok Cf.pre at hc; omega))
/-- Made: a pace. -/
theorem s_paceNew {t0 t1 t2 t3 t4 : Int} (hok : paceOk t0 t1 t2 t3 t4) (h : Heap) : ∃ v h', To M n_pace_New [.g [.i .i64 t0, .i .i64 t1, .i .i64 t2, .i .i64 t3, .i .i64 t4]] h v h' ∧ (∃ i, v = .t [.p (some (i, 0)), .i .i64 0] ∧ h.length ≤ i ∧ h'[i]? = some (.cells [.i .i64 0, .i .i64 0, .i .i64 0, .i .i64 0, .i .i64 0, .i .i64 t0, .i .i64 t1, .i .i64 t2, .i .i64 t3, .i .i64 t4] false none)) ∧ Fr h [] h' := by
  refine To_body' rfl F_pace_New (Nat.le_of_ble_eq_true rfl) ?_
  simp only [go_sem, Nat.reduceLT, Nat.reduceLeDiff, Nat.reduceEqDiff, Nat.reduceAdd, Nat.reduceMul, Nat.reduceSub, Int.reduceLT, Int.reduceLE, Int.reduceEq, Int.reduceNe, Int.reduceToNat, Int.reduceAdd, Int.reduceSub, Int.reduceMul, Int.reduceNeg, Int.reduceBEq, Int.reduceBNe, Nat.reduceBEq, b_pace_New]
  refine Pc_ex (s_paceCheck _ _ _ _ _ _) fun H hF => ?_
  have g1 := hF.get (get_new0 _) (by simp)
  simp only [go_sem, Nat.reduceLT, Nat.reduceLeDiff, Nat.reduceEqDiff, Nat.reduceAdd, Nat.reduceMul, Nat.reduceSub, Int.reduceLT, Int.reduceLE, Int.reduceEq, Int.reduceNe, Int.reduceToNat, Int.reduceAdd, Int.reduceSub, Int.reduceMul, Int.reduceNeg, Int.reduceBEq, Int.reduceBNe, Nat.reduceBEq, if_pos hok, g1]
  have hl := hF.1
  simp only [List.length_append] at hl
  exact ⟨_, rfl, ⟨H.length, rfl, by omega, get_new0 _⟩, (Fr.app0 hF).app _⟩
theorem s_nodeNew {c : Cf} (hok : c.ok) (h : Heap) : ∃ v h', To M n_node_New [.g c.cs] h v h' ∧ (∃ i, v = .t [.p (some (i, 0)), .i .i64 0]) ∧ Fr h [] h' := by
  refine To_body' rfl F_node_New (Nat.le_of_ble_eq_true rfl) ?_
  simp only [go_sem, Nat.reduceLT, Nat.reduceLeDiff, Nat.reduceEqDiff, Nat.reduceAdd, Nat.reduceMul, Nat.reduceSub, Int.reduceLT, Int.reduceLE, Int.reduceEq, Int.reduceNe, Int.reduceToNat, Int.reduceAdd, Int.reduceSub, Int.reduceMul, Int.reduceNeg, Int.reduceBEq, Int.reduceBNe, Nat.reduceBEq, b_node_New, Cf.cs]
  refine Pc_ex (s_nodeCheck c _) fun H1 F1 => ?_
  have g1 := F1.get (get_new0 _) (by simp)
  have hok' := hok
  unfold Cf.ok at hok'
  unfold Cf.cs at g1
  simp only [go_sem, Nat.reduceLT, Nat.reduceLeDiff, Nat.reduceEqDiff, Nat.reduceAdd, Nat.reduceMul, Nat.reduceSub, Int.reduceLT, Int.reduceLE, Int.reduceEq, Int.reduceNe, Int.reduceToNat, Int.reduceAdd, Int.reduceSub, Int.reduceMul, Int.reduceNeg, Int.reduceBEq, Int.reduceBNe, Nat.reduceBEq, if_pos hok, g1]
  refine Pc_exv (s_paceNew hok'.2 _) fun v H2 ⟨⟨i, hv, hi, hp⟩, F2⟩ => ?_
  subst hv
  have g2 := F2.get g1 (by simp)
  simp only [go_sem, Nat.reduceLT, Nat.reduceLeDiff, Nat.reduceEqDiff, Nat.reduceAdd, Nat.reduceMul, Nat.reduceSub, Int.reduceLT, Int.reduceLE, Int.reduceEq, Int.reduceNe, Int.reduceToNat, Int.reduceAdd, Int.reduceSub, Int.reduceMul, Int.reduceNeg, Int.reduceBEq, Int.reduceBNe, Nat.reduceBEq, g2, Pc_to (s_Add _ _ _), Pc_to (s_Low _ _), Pc_inl (M := M) (f := n_conn_New) (c := c_conn_New) rfl F_conn_New, c_conn_New, b_conn_New, Pc_inl (M := M) (f := n_ring_New_pdu_PDU) (c := c_ring_New_pdu_PDU) rfl F_ring_New_pdu_PDU, c_ring_New_pdu_PDU, b_ring_New_pdu_PDU, exists_eq_left']
  exact ⟨⟨_, rfl⟩, ((Fr.app0 F1).trans F2 (by simp)).app _⟩
/-- The checks' table: some numbers. -/
theorem make_in {k : List K} {Q : X → List V → Heap → Prop} {A0 A1 A2 A5 : V} {H : Heap}
    (hex : ∀ (g' : Nat → V) (x : Int), g' 0 = A0 → g' 1 = A1 → g' 2 = A2 → g' 5 = A5 → g' 3 = .i .u32 x → Un M k (.ex 2) (frL 26 g') H Q) :
    ∀ (n j : Nat) (g : Nat → V) (x : Int), j + n = 8 → g 0 = A0 → g 1 = A1 → g 2 = A2 → g 5 = A5 → g 3 = .i .u32 x → g 11 = .i .i64 j → Un M (.code (.loop l_crc_Make_0) :: k) .nrm (frL 26 g) H Q := by
  intro n
  induction n with
  | zero =>
    intro j g x hj e0 e1 e2 e5 e3 e11
    have : j = 8 := by omega
    subst this
    rw [Un_loop]
    simp only [go_sem, Nat.reduceLT, Nat.reduceLeDiff, Nat.reduceEqDiff, Nat.reduceAdd, Nat.reduceMul, Nat.reduceSub, Int.reduceLT, Int.reduceLE, Int.reduceEq, Int.reduceNe, Int.reduceToNat, Int.reduceAdd, Int.reduceSub, Int.reduceMul, Int.reduceNeg, Int.reduceBEq, Int.reduceBNe, Nat.reduceBEq, l_crc_Make_0, e0, e1, e2, e5, e3, e11]
    exact hex _ x (by simp only [go_sem, Nat.reduceLT, Nat.reduceLeDiff, Nat.reduceEqDiff, Nat.reduceAdd, Nat.reduceMul, Nat.reduceSub, Int.reduceLT, Int.reduceLE, Int.reduceEq, Int.reduceNe, Int.reduceToNat, Int.reduceAdd, Int.reduceSub, Int.reduceMul, Int.reduceNeg, Int.reduceBEq, Int.reduceBNe, Nat.reduceBEq, e0]) (by simp only [go_sem, Nat.reduceLT, Nat.reduceLeDiff, Nat.reduceEqDiff, Nat.reduceAdd, Nat.reduceMul, Nat.reduceSub, Int.reduceLT, Int.reduceLE, Int.reduceEq, Int.reduceNe, Int.reduceToNat, Int.reduceAdd, Int.reduceSub, Int.reduceMul, Int.reduceNeg, Int.reduceBEq, Int.reduceBNe, Nat.reduceBEq, e1]) (by simp only [go_sem, Nat.reduceLT, Nat.reduceLeDiff, Nat.reduceEqDiff, Nat.reduceAdd, Nat.reduceMul, Nat.reduceSub, Int.reduceLT, Int.reduceLE, Int.reduceEq, Int.reduceNe, Int.reduceToNat, Int.reduceAdd, Int.reduceSub, Int.reduceMul, Int.reduceNeg, Int.reduceBEq, Int.reduceBNe, Nat.reduceBEq, e2]) (by simp only [go_sem, Nat.reduceLT, Nat.reduceLeDiff, Nat.reduceEqDiff, Nat.reduceAdd, Nat.reduceMul, Nat.reduceSub, Int.reduceLT, Int.reduceLE, Int.reduceEq, Int.reduceNe, Int.reduceToNat, Int.reduceAdd, Int.reduceSub, Int.reduceMul, Int.reduceNeg, Int.reduceBEq, Int.reduceBNe, Nat.reduceBEq, e5]) (by simp only [go_sem, Nat.reduceLT, Nat.reduceLeDiff, Nat.reduceEqDiff, Nat.reduceAdd, Nat.reduceMul, Nat.reduceSub, Int.reduceLT, Int.reduceLE, Int.reduceEq, Int.reduceNe, Int.reduceToNat, Int.reduceAdd, Int.reduceSub, Int.reduceMul, Int.reduceNeg, Int.reduceBEq, Int.reduceBNe, Nat.reduceBEq, e3])
  | succ n ih =>
    intro j g x hj e0 e1 e2 e5 e3 e11
    have hlt : (j : Int) < 8 := by omega
    rw [Un_loop]
    simp only [go_sem, Nat.reduceLT, Nat.reduceLeDiff, Nat.reduceEqDiff, Nat.reduceAdd, Nat.reduceMul, Nat.reduceSub, Int.reduceLT, Int.reduceLE, Int.reduceEq, Int.reduceNe, Int.reduceToNat, Int.reduceAdd, Int.reduceSub, Int.reduceMul, Int.reduceNeg, Int.reduceBEq, Int.reduceBNe, Nat.reduceBEq, l_crc_Make_0, e0, e1, e2, e5, e3, e11, hlt, Un_again, wrap_next (show j ≤ 4611686018427387904 by omega)]
    exact ih (j + 1) _ _ (by omega) (by simp only [go_sem, Nat.reduceLT, Nat.reduceLeDiff, Nat.reduceEqDiff, Nat.reduceAdd, Nat.reduceMul, Nat.reduceSub, Int.reduceLT, Int.reduceLE, Int.reduceEq, Int.reduceNe, Int.reduceToNat, Int.reduceAdd, Int.reduceSub, Int.reduceMul, Int.reduceNeg, Int.reduceBEq, Int.reduceBNe, Nat.reduceBEq, e0]) (by simp only [go_sem, Nat.reduceLT, Nat.reduceLeDiff, Nat.reduceEqDiff, Nat.reduceAdd, Nat.reduceMul, Nat.reduceSub, Int.reduceLT, Int.reduceLE, Int.reduceEq, Int.reduceNe, Int.reduceToNat, Int.reduceAdd, Int.reduceSub, Int.reduceMul, Int.reduceNeg, Int.reduceBEq, Int.reduceBNe, Nat.reduceBEq, e1]) (by simp only [go_sem, Nat.reduceLT, Nat.reduceLeDiff, Nat.reduceEqDiff, Nat.reduceAdd, Nat.reduceMul, Nat.reduceSub, Int.reduceLT, Int.reduceLE, Int.reduceEq, Int.reduceNe, Int.reduceToNat, Int.reduceAdd, Int.reduceSub, Int.reduceMul, Int.reduceNeg, Int.reduceBEq, Int.reduceBNe, Nat.reduceBEq, e2]) (by simp only [go_sem, Nat.reduceLT, Nat.reduceLeDiff, Nat.reduceEqDiff, Nat.reduceAdd, Nat.reduceMul, Nat.reduceSub, Int.reduceLT, Int.reduceLE, Int.reduceEq, Int.reduceNe, Int.reduceToNat, Int.reduceAdd, Int.reduceSub, Int.reduceMul, Int.reduceNeg, Int.reduceBEq, Int.reduceBNe, Nat.reduceBEq, e5]) (by (first | (simp only [go_sem, Nat.reduceLT, Nat.reduceLeDiff, Nat.reduceEqDiff, Nat.reduceAdd, Nat.reduceMul, Nat.reduceSub, Int.reduceLT, Int.reduceLE, Int.reduceEq, Int.reduceNe, Int.reduceToNat, Int.reduceAdd, Int.reduceSub, Int.reduceMul, Int.reduceNeg, Int.reduceBEq, Int.reduceBNe, Nat.reduceBEq]; done) | (simp only [go_sem, Nat.reduceLT, Nat.reduceLeDiff, Nat.reduceEqDiff, Nat.reduceAdd, Nat.reduceMul, Nat.reduceSub, Int.reduceLT, Int.reduceLE, Int.reduceEq, Int.reduceNe, Int.reduceToNat, Int.reduceAdd, Int.reduceSub, Int.reduceMul, Int.reduceNeg, Int.reduceBEq, Int.reduceBNe, Nat.reduceBEq]; rfl) | rfl)) (by (first | (simp only [go_sem, Nat.reduceLT, Nat.reduceLeDiff, Nat.reduceEqDiff, Nat.reduceAdd, Nat.reduceMul, Nat.reduceSub, Int.reduceLT, Int.reduceLE, Int.reduceEq, Int.reduceNe, Int.reduceToNat, Int.reduceAdd, Int.reduceSub, Int.reduceMul, Int.reduceNeg, Int.reduceBEq, Int.reduceBNe, Nat.reduceBEq]; done) | (simp only [go_sem, Nat.reduceLT, Nat.reduceLeDiff, Nat.reduceEqDiff, Nat.reduceAdd, Nat.reduceMul, Nat.reduceSub, Int.reduceLT, Int.reduceLE, Int.reduceEq, Int.reduceNe, Int.reduceToNat, Int.reduceAdd, Int.reduceSub, Int.reduceMul, Int.reduceNeg, Int.reduceBEq, Int.reduceBNe, Nat.reduceBEq]; rfl) | rfl))
theorem make_out {o0 : Obj} {k : List K} {Q : X → List V → Heap → Prop} {h0 : Heap} {a b : Nat} (hb : h0.length ≤ b)
    (hex : ∀ (g' : Nat → V) H cs, g' 0 = .p (some (a, 0)) → g' 1 = .p (some (b, 0)) → cs.length = 256 → cs.all V.one = true → H[b]? = some (.cells cs false (some 95)) → (∃ o, H[a]? = some o ∧ o = o0) → Fr h0 [] H → Un M k (.ex 0) (frL 26 g') H Q) :
    ∀ (n i : Nat) (g : Nat → V) (H : Heap) (cs : List V), i + n = 256 → g 0 = .p (some (a, 0)) → g 1 = .p (some (b, 0)) → g 5 = .i .i64 i → cs.length = 256 → cs.all V.one = true → H[b]? = some (.cells cs false (some 95)) → H[a]? = some o0 → a ≠ b → Fr h0 [] H →
      Un M (.code (.loop l_crc_Make_1) :: k) .nrm (frL 26 g) H Q := by
  intro n
  induction n with
  | zero =>
    intro i g H cs hi e0 e1 e5 hcs ha hH hA hne hF
    have : i = 256 := by omega
    subst this
    rw [Un_loop]
    simp only [go_sem, Nat.reduceLT, Nat.reduceLeDiff, Nat.reduceEqDiff, Nat.reduceAdd, Nat.reduceMul, Nat.reduceSub, Int.reduceLT, Int.reduceLE, Int.reduceEq, Int.reduceNe, Int.reduceToNat, Int.reduceAdd, Int.reduceSub, Int.reduceMul, Int.reduceNeg, Int.reduceBEq, Int.reduceBNe, Nat.reduceBEq, l_crc_Make_1, e0, e1, e5]
    exact hex _ H cs (by simp only [go_sem, Nat.reduceLT, Nat.reduceLeDiff, Nat.reduceEqDiff, Nat.reduceAdd, Nat.reduceMul, Nat.reduceSub, Int.reduceLT, Int.reduceLE, Int.reduceEq, Int.reduceNe, Int.reduceToNat, Int.reduceAdd, Int.reduceSub, Int.reduceMul, Int.reduceNeg, Int.reduceBEq, Int.reduceBNe, Nat.reduceBEq, e0]) (by simp only [go_sem, Nat.reduceLT, Nat.reduceLeDiff, Nat.reduceEqDiff, Nat.reduceAdd, Nat.reduceMul, Nat.reduceSub, Int.reduceLT, Int.reduceLE, Int.reduceEq, Int.reduceNe, Int.reduceToNat, Int.reduceAdd, Int.reduceSub, Int.reduceMul, Int.reduceNeg, Int.reduceBEq, Int.reduceBNe, Nat.reduceBEq, e1]) hcs ha hH ⟨_, hA, rfl⟩ hF
  | succ n ih =>
    intro i g H cs hi e0 e1 e5 hcs ha hH hA hne hF
    have hlt : (i : Int) < 256 := by omega
    rw [Un_loop]
    simp only [go_sem, Nat.reduceLT, Nat.reduceLeDiff, Nat.reduceEqDiff, Nat.reduceAdd, Nat.reduceMul, Nat.reduceSub, Int.reduceLT, Int.reduceLE, Int.reduceEq, Int.reduceNe, Int.reduceToNat, Int.reduceAdd, Int.reduceSub, Int.reduceMul, Int.reduceNeg, Int.reduceBEq, Int.reduceBNe, Nat.reduceBEq, l_crc_Make_1, e0, e1, e5, hlt]
    refine make_in (A0 := .p (some (a, 0))) (A1 := .p (some (b, 0))) (A2 := .i .i64 i) (A5 := .i .i64 i) (fun g' x f0 f1 f2 f5 f3 => ?_) 8 0 _ _ rfl (by simp only [go_sem, Nat.reduceLT, Nat.reduceLeDiff, Nat.reduceEqDiff, Nat.reduceAdd, Nat.reduceMul, Nat.reduceSub, Int.reduceLT, Int.reduceLE, Int.reduceEq, Int.reduceNe, Int.reduceToNat, Int.reduceAdd, Int.reduceSub, Int.reduceMul, Int.reduceNeg, Int.reduceBEq, Int.reduceBNe, Nat.reduceBEq, e0]) (by simp only [go_sem, Nat.reduceLT, Nat.reduceLeDiff, Nat.reduceEqDiff, Nat.reduceAdd, Nat.reduceMul, Nat.reduceSub, Int.reduceLT, Int.reduceLE, Int.reduceEq, Int.reduceNe, Int.reduceToNat, Int.reduceAdd, Int.reduceSub, Int.reduceMul, Int.reduceNeg, Int.reduceBEq, Int.reduceBNe, Nat.reduceBEq, e1]) (by simp only [go_sem, Nat.reduceLT, Nat.reduceLeDiff, Nat.reduceEqDiff, Nat.reduceAdd, Nat.reduceMul, Nat.reduceSub, Int.reduceLT, Int.reduceLE, Int.reduceEq, Int.reduceNe, Int.reduceToNat, Int.reduceAdd, Int.reduceSub, Int.reduceMul, Int.reduceNeg, Int.reduceBEq, Int.reduceBNe, Nat.reduceBEq, e5]) (by simp only [go_sem, Nat.reduceLT, Nat.reduceLeDiff, Nat.reduceEqDiff, Nat.reduceAdd, Nat.reduceMul, Nat.reduceSub, Int.reduceLT, Int.reduceLE, Int.reduceEq, Int.reduceNe, Int.reduceToNat, Int.reduceAdd, Int.reduceSub, Int.reduceMul, Int.reduceNeg, Int.reduceBEq, Int.reduceBNe, Nat.reduceBEq, e5]) (by (first | (simp only [go_sem, Nat.reduceLT, Nat.reduceLeDiff, Nat.reduceEqDiff, Nat.reduceAdd, Nat.reduceMul, Nat.reduceSub, Int.reduceLT, Int.reduceLE, Int.reduceEq, Int.reduceNe, Int.reduceToNat, Int.reduceAdd, Int.reduceSub, Int.reduceMul, Int.reduceNeg, Int.reduceBEq, Int.reduceBNe, Nat.reduceBEq]; done) | (simp only [go_sem, Nat.reduceLT, Nat.reduceLeDiff, Nat.reduceEqDiff, Nat.reduceAdd, Nat.reduceMul, Nat.reduceSub, Int.reduceLT, Int.reduceLE, Int.reduceEq, Int.reduceNe, Int.reduceToNat, Int.reduceAdd, Int.reduceSub, Int.reduceMul, Int.reduceNeg, Int.reduceBEq, Int.reduceBNe, Nat.reduceBEq]; rfl) | rfl)) (by (first | (simp only [go_sem, Nat.reduceLT, Nat.reduceLeDiff, Nat.reduceEqDiff, Nat.reduceAdd, Nat.reduceMul, Nat.reduceSub, Int.reduceLT, Int.reduceLE, Int.reduceEq, Int.reduceNe, Int.reduceToNat, Int.reduceAdd, Int.reduceSub, Int.reduceMul, Int.reduceNeg, Int.reduceBEq, Int.reduceBNe, Nat.reduceBEq]; done) | (simp only [go_sem, Nat.reduceLT, Nat.reduceLeDiff, Nat.reduceEqDiff, Nat.reduceAdd, Nat.reduceMul, Nat.reduceSub, Int.reduceLT, Int.reduceLE, Int.reduceEq, Int.reduceNe, Int.reduceToNat, Int.reduceAdd, Int.reduceSub, Int.reduceMul, Int.reduceNeg, Int.reduceBEq, Int.reduceBNe, Nat.reduceBEq]; rfl) | rfl))
    simp only [go_sem, Nat.reduceLT, Nat.reduceLeDiff, Nat.reduceEqDiff, Nat.reduceAdd, Nat.reduceMul, Nat.reduceSub, Int.reduceLT, Int.reduceLE, Int.reduceEq, Int.reduceNe, Int.reduceToNat, Int.reduceAdd, Int.reduceSub, Int.reduceMul, Int.reduceNeg, Int.reduceBEq, Int.reduceBNe, Nat.reduceBEq, f0, f1, f2, f5, f3, hlt, hH, hcs, show i < 256 by omega, show i + 1 ≤ 256 by omega, Un_again, wrap_next (show i ≤ 4611686018427387904 by omega)]
    have hbl := lt_of hH
    refine ih (i + 1) _ _ (cs.set i (.i .u32 x)) (by omega) (by simp only [go_sem, Nat.reduceLT, Nat.reduceLeDiff, Nat.reduceEqDiff, Nat.reduceAdd, Nat.reduceMul, Nat.reduceSub, Int.reduceLT, Int.reduceLE, Int.reduceEq, Int.reduceNe, Int.reduceToNat, Int.reduceAdd, Int.reduceSub, Int.reduceMul, Int.reduceNeg, Int.reduceBEq, Int.reduceBNe, Nat.reduceBEq, f0]) (by simp only [go_sem, Nat.reduceLT, Nat.reduceLeDiff, Nat.reduceEqDiff, Nat.reduceAdd, Nat.reduceMul, Nat.reduceSub, Int.reduceLT, Int.reduceLE, Int.reduceEq, Int.reduceNe, Int.reduceToNat, Int.reduceAdd, Int.reduceSub, Int.reduceMul, Int.reduceNeg, Int.reduceBEq, Int.reduceBNe, Nat.reduceBEq, f1]) (by (first | (simp only [go_sem, Nat.reduceLT, Nat.reduceLeDiff, Nat.reduceEqDiff, Nat.reduceAdd, Nat.reduceMul, Nat.reduceSub, Int.reduceLT, Int.reduceLE, Int.reduceEq, Int.reduceNe, Int.reduceToNat, Int.reduceAdd, Int.reduceSub, Int.reduceMul, Int.reduceNeg, Int.reduceBEq, Int.reduceBNe, Nat.reduceBEq]; done) | (simp only [go_sem, Nat.reduceLT, Nat.reduceLeDiff, Nat.reduceEqDiff, Nat.reduceAdd, Nat.reduceMul, Nat.reduceSub, Int.reduceLT, Int.reduceLE, Int.reduceEq, Int.reduceNe, Int.reduceToNat, Int.reduceAdd, Int.reduceSub, Int.reduceMul, Int.reduceNeg, Int.reduceBEq, Int.reduceBNe, Nat.reduceBEq]; rfl) | rfl)) (by rw [List.length_set]; exact hcs) ?_ (List.getElem?_set_self hbl) ?_ hne (hF.set (.inr hb) _)
    · rw [List.all_eq_true]
      intro v hv
      rcases List.mem_or_eq_of_mem_set hv with hv | rfl
      · exact List.all_eq_true.1 ha v hv
      · rfl
    · rw [List.getElem?_set_ne (fun c => hne c.symm)]; exact hA
theorem fillS_whole {z cs : List V} (hz : z.length = 256) (hc : cs.length = 256) : fillS z [(0, 256, .g cs)] = some cs := by
  unfold fillS
  rw [if_pos ⟨hc, by omega⟩]
  unfold fillS
  unfold splice
  rw [List.take_zero, List.nil_append, Nat.zero_add, show (V.g cs).cells = cs from rfl, hc, List.drop_of_length_le (by omega), List.append_nil]
set_option maxRecDepth 100000 in
theorem s_make (h : Heap) : ∃ v h', To M n_crc_Make [] h v h' ∧ (∃ cs, v = .g cs ∧ cs.length = 256 ∧ cs.all V.one = true) ∧ Fr h [] h' := by
  refine To_body' rfl F_crc_Make (Nat.le_of_ble_eq_true rfl) ?_
  simp only [go_sem, Nat.reduceLT, Nat.reduceLeDiff, Nat.reduceEqDiff, Nat.reduceAdd, Nat.reduceMul, Nat.reduceSub, Int.reduceLT, Int.reduceLE, Int.reduceEq, Int.reduceNe, Int.reduceToNat, Int.reduceAdd, Int.reduceSub, Int.reduceMul, Int.reduceNeg, Int.reduceBEq, Int.reduceBNe, Nat.reduceBEq, b_crc_Make]
  refine make_out (h0 := h) (a := h.length) (b := h.length + 1) (o0 := _) (by omega) (fun g' H cs e0 e1 hcs ha hH hA hF => ?_) 256 0 _ _ _ rfl ?_ ?_ ?_ rfl rfl (get_new _ 1) (get_new0 _) (by omega) ((Fr.refl _ _).app _)
  rotate_left
  · (first | (simp only [go_sem, Nat.reduceLT, Nat.reduceLeDiff, Nat.reduceEqDiff, Nat.reduceAdd, Nat.reduceMul, Nat.reduceSub, Int.reduceLT, Int.reduceLE, Int.reduceEq, Int.reduceNe, Int.reduceToNat, Int.reduceAdd, Int.reduceSub, Int.reduceMul, Int.reduceNeg, Int.reduceBEq, Int.reduceBNe, Nat.reduceBEq]; done) | (simp only [go_sem, Nat.reduceLT, Nat.reduceLeDiff, Nat.reduceEqDiff, Nat.reduceAdd, Nat.reduceMul, Nat.reduceSub, Int.reduceLT, Int.reduceLE, Int.reduceEq, Int.reduceNe, Int.reduceToNat, Int.reduceAdd, Int.reduceSub, Int.reduceMul, Int.reduceNeg, Int.reduceBEq, Int.reduceBNe, Nat.reduceBEq]; rfl) | rfl)
  · (first | (simp only [go_sem, Nat.reduceLT, Nat.reduceLeDiff, Nat.reduceEqDiff, Nat.reduceAdd, Nat.reduceMul, Nat.reduceSub, Int.reduceLT, Int.reduceLE, Int.reduceEq, Int.reduceNe, Int.reduceToNat, Int.reduceAdd, Int.reduceSub, Int.reduceMul, Int.reduceNeg, Int.reduceBEq, Int.reduceBNe, Nat.reduceBEq]; done) | (simp only [go_sem, Nat.reduceLT, Nat.reduceLeDiff, Nat.reduceEqDiff, Nat.reduceAdd, Nat.reduceMul, Nat.reduceSub, Int.reduceLT, Int.reduceLE, Int.reduceEq, Int.reduceNe, Int.reduceToNat, Int.reduceAdd, Int.reduceSub, Int.reduceMul, Int.reduceNeg, Int.reduceBEq, Int.reduceBNe, Nat.reduceBEq]; rfl) | rfl)
  · (first | (simp only [go_sem, Nat.reduceLT, Nat.reduceLeDiff, Nat.reduceEqDiff, Nat.reduceAdd, Nat.reduceMul, Nat.reduceSub, Int.reduceLT, Int.reduceLE, Int.reduceEq, Int.reduceNe, Int.reduceToNat, Int.reduceAdd, Int.reduceSub, Int.reduceMul, Int.reduceNeg, Int.reduceBEq, Int.reduceBNe, Nat.reduceBEq]; done) | (simp only [go_sem, Nat.reduceLT, Nat.reduceLeDiff, Nat.reduceEqDiff, Nat.reduceAdd, Nat.reduceMul, Nat.reduceSub, Int.reduceLT, Int.reduceLE, Int.reduceEq, Int.reduceNe, Int.reduceToNat, Int.reduceAdd, Int.reduceSub, Int.reduceMul, Int.reduceNeg, Int.reduceBEq, Int.reduceBNe, Nat.reduceBEq]; rfl) | rfl)
  obtain ⟨o, hA, rfl⟩ := hA
  have ht : cs.take 256 = cs := List.take_of_length_le (by omega)
  have hal := lt_of hA
  simp only [go_sem, Nat.reduceLT, Nat.reduceLeDiff, Nat.reduceEqDiff, Nat.reduceAdd, Nat.reduceMul, Nat.reduceSub, Int.reduceLT, Int.reduceLE, Int.reduceEq, Int.reduceNe, Int.reduceToNat, Int.reduceAdd, Int.reduceSub, Int.reduceMul, Int.reduceNeg, Int.reduceBEq, Int.reduceBNe, Nat.reduceBEq, e0, e1, hH, hA, hcs, ht, ha, hal, List.getElem?_set_self]
  exact ⟨_, rfl, ⟨cs, rfl, hcs, ha⟩, hF.set (.inr (Nat.le_refl _)) _⟩
set_option maxRecDepth 100000 in
theorem s_wireNew (h : Heap) : ∃ v h', To M n_wire_New [] h v h' ∧ (∃ i, v = .p (some (i, 0)) ∧ h.length ≤ i ∧ ∃ cs, cs.length = 256 ∧ h'[i]? = some (.cells cs false none)) ∧ Fr h [] h' := by
  refine To_body' rfl F_wire_New (Nat.le_of_ble_eq_true rfl) ?_
  simp only [go_sem, Nat.reduceLT, Nat.reduceLeDiff, Nat.reduceEqDiff, Nat.reduceAdd, Nat.reduceMul, Nat.reduceSub, Int.reduceLT, Int.reduceLE, Int.reduceEq, Int.reduceNe, Int.reduceToNat, Int.reduceAdd, Int.reduceSub, Int.reduceMul, Int.reduceNeg, Int.reduceBEq, Int.reduceBNe, Nat.reduceBEq, b_wire_New]
  refine Pc_exv (s_make _) fun v H ⟨⟨cs, hv, hl, ha⟩, hF⟩ => ?_
  subst hv
  simp only [go_sem, Nat.reduceLT, Nat.reduceLeDiff, Nat.reduceEqDiff, Nat.reduceAdd, Nat.reduceMul, Nat.reduceSub, Int.reduceLT, Int.reduceLE, Int.reduceEq, Int.reduceNe, Int.reduceToNat, Int.reduceAdd, Int.reduceSub, Int.reduceMul, Int.reduceNeg, Int.reduceBEq, Int.reduceBNe, Nat.reduceBEq, hl, ha, fillS_whole]
  exact ⟨_, rfl, ⟨H.length, rfl, hF.1, cs, hl, get_new0 _⟩, hF.app _⟩
theorem s_pipeNew (n : Int) (h : Heap) : ∃ v h', To M n_pipe_New [.i .i64 n] h v h' ∧ (∃ i, v = .p (some (i, 0))) ∧ Fr h [] h' := by
  refine To_body' rfl F_pipe_New (Nat.le_of_ble_eq_true rfl) ?_
  simp only [go_sem, Nat.reduceLT, Nat.reduceLeDiff, Nat.reduceEqDiff, Nat.reduceAdd, Nat.reduceMul, Nat.reduceSub, Int.reduceLT, Int.reduceLE, Int.reduceEq, Int.reduceNe, Int.reduceToNat, Int.reduceAdd, Int.reduceSub, Int.reduceMul, Int.reduceNeg, Int.reduceBEq, Int.reduceBNe, Nat.reduceBEq, b_pipe_New, Pc_inl (M := M) (f := n_ring_New_string) (c := c_ring_New_string) rfl F_ring_New_string, c_ring_New_string, b_ring_New_string, exists_eq_left']
  exact ⟨⟨_, rfl⟩, (Fr.refl _ _).app _⟩
def lkOk (a b : Cf) (room : Int) : Prop := a.ok ∧ b.ok ∧ a.start = b.start ∧ 1 ≤ room ∧ room ≤ 256
instance (a b : Cf) (room : Int) : Decidable (lkOk a b room) := by unfold lkOk; infer_instance
theorem s_linkCheck (a b : Cf) (room : Int) (h : Heap) : ∃ h', To M n_link_Config_Check [.g (a.cs ++ b.cs ++ [.i .i64 room])] h (.i .i64 (if lkOk a b room then 0 else 1)) h' ∧ Fr h [] h' := by
  refine ex_of ?_
  refine To_body' rfl F_link_Config_Check (Nat.le_of_ble_eq_true rfl) ?_
  simp only [go_sem, Nat.reduceLT, Nat.reduceLeDiff, Nat.reduceEqDiff, Nat.reduceAdd, Nat.reduceMul, Nat.reduceSub, Int.reduceLT, Int.reduceLE, Int.reduceEq, Int.reduceNe, Int.reduceToNat, Int.reduceAdd, Int.reduceSub, Int.reduceMul, Int.reduceNeg, Int.reduceBEq, Int.reduceBNe, Nat.reduceBEq, b_link_Config_Check, l_link_Config_Check_0, Un_loop, Un_again, Cf.cs]
  refine Pc_ex (s_nodeCheck a _) fun H1 F1 => ?_
  have g1 := F1.get (get_new _ 0) (by simp)
  by_cases ea : a.ok
  rotate_left
  · simp only [go_sem, Nat.reduceLT, Nat.reduceLeDiff, Nat.reduceEqDiff, Nat.reduceAdd, Nat.reduceMul, Nat.reduceSub, Int.reduceLT, Int.reduceLE, Int.reduceEq, Int.reduceNe, Int.reduceToNat, Int.reduceAdd, Int.reduceSub, Int.reduceMul, Int.reduceNeg, Int.reduceBEq, Int.reduceBNe, Nat.reduceBEq, if_neg ea]
    exact ⟨_, rfl, by rw [if_neg (fun q : lkOk a b room => ea q.1)], Fr.app0 F1⟩
  simp only [go_sem, Nat.reduceLT, Nat.reduceLeDiff, Nat.reduceEqDiff, Nat.reduceAdd, Nat.reduceMul, Nat.reduceSub, Int.reduceLT, Int.reduceLE, Int.reduceEq, Int.reduceNe, Int.reduceToNat, Int.reduceAdd, Int.reduceSub, Int.reduceMul, Int.reduceNeg, Int.reduceBEq, Int.reduceBNe, Nat.reduceBEq, if_pos ea, Un_again, Un_loop, l_link_Config_Check_0, g1, wrap_i64]
  refine Pc_ex (s_nodeCheck b _) fun H2 F2 => ?_
  rw [Nat.add_zero] at g1
  have g2 := (Fr.app0 F2).get g1 (by simp)
  have F : Fr h [] H2 := (Fr.app0 F1).trans (Fr.app0 F2) (by simp)
  by_cases eb : b.ok
  rotate_left
  · simp only [go_sem, Nat.reduceLT, Nat.reduceLeDiff, Nat.reduceEqDiff, Nat.reduceAdd, Nat.reduceMul, Nat.reduceSub, Int.reduceLT, Int.reduceLE, Int.reduceEq, Int.reduceNe, Int.reduceToNat, Int.reduceAdd, Int.reduceSub, Int.reduceMul, Int.reduceNeg, Int.reduceBEq, Int.reduceBNe, Nat.reduceBEq, if_neg eb]
    exact ⟨_, rfl, by rw [if_neg (fun q : lkOk a b room => eb q.2.1)], F⟩
  simp only [go_sem, Nat.reduceLT, Nat.reduceLeDiff, Nat.reduceEqDiff, Nat.reduceAdd, Nat.reduceMul, Nat.reduceSub, Int.reduceLT, Int.reduceLE, Int.reduceEq, Int.reduceNe, Int.reduceToNat, Int.reduceAdd, Int.reduceSub, Int.reduceMul, Int.reduceNeg, Int.reduceBEq, Int.reduceBNe, Nat.reduceBEq, if_pos eb, Un_again, Un_loop, l_link_Config_Check_0, g2, wrap_i64]
  repeat' (first | (refine Gd_splitN (fun e => ?_) (fun e => ?_) <;> simp only [go_sem, Nat.reduceLT, Nat.reduceLeDiff, Nat.reduceEqDiff, Nat.reduceAdd, Nat.reduceMul, Nat.reduceSub, Int.reduceLT, Int.reduceLE, Int.reduceEq, Int.reduceNe, Int.reduceToNat, Int.reduceAdd, Int.reduceSub, Int.reduceMul, Int.reduceNeg, Int.reduceBEq, Int.reduceBNe, Nat.reduceBEq, e, g2]) | (refine Gd_split (fun e => ?_) (fun e => ?_) <;> simp only [go_sem, Nat.reduceLT, Nat.reduceLeDiff, Nat.reduceEqDiff, Nat.reduceAdd, Nat.reduceMul, Nat.reduceSub, Int.reduceLT, Int.reduceLE, Int.reduceEq, Int.reduceNe, Int.reduceToNat, Int.reduceAdd, Int.reduceSub, Int.reduceMul, Int.reduceNeg, Int.reduceBEq, Int.reduceBNe, Nat.reduceBEq, e, g2]) | (refine Br_splitN (fun e => ?_) (fun e => ?_) <;> simp only [go_sem, Nat.reduceLT, Nat.reduceLeDiff, Nat.reduceEqDiff, Nat.reduceAdd, Nat.reduceMul, Nat.reduceSub, Int.reduceLT, Int.reduceLE, Int.reduceEq, Int.reduceNe, Int.reduceToNat, Int.reduceAdd, Int.reduceSub, Int.reduceMul, Int.reduceNeg, Int.reduceBEq, Int.reduceBNe, Nat.reduceBEq, e, g2]) | (refine Br_split (fun e => ?_) (fun e => ?_) <;> simp only [go_sem, Nat.reduceLT, Nat.reduceLeDiff, Nat.reduceEqDiff, Nat.reduceAdd, Nat.reduceMul, Nat.reduceSub, Int.reduceLT, Int.reduceLE, Int.reduceEq, Int.reduceNe, Int.reduceToNat, Int.reduceAdd, Int.reduceSub, Int.reduceMul, Int.reduceNeg, Int.reduceBEq, Int.reduceBNe, Nat.reduceBEq, e, g2]))
  all_goals refine ⟨_, rfl, ?_, F⟩
  all_goals simp only [decide_eq_true_eq, decide_eq_false_iff_not, gt_iff_lt] at *
  all_goals (split <;> rename_i hc <;> first | rfl | (exfalso; unfold lkOk at hc; first | omega | (apply hc; exact ⟨ea, eb, by omega⟩)))
theorem s_linkNew (a b : Cf) (room : Int) (h : Heap) : ∃ v h', To M n_link_New [.g (a.cs ++ b.cs ++ [.i .i64 room])] h v h' ∧ ((lkOk a b room ∧ ∃ i, v = .t [.p (some (i, 0)), .i .i64 0]) ∨ (¬ lkOk a b room ∧ v = .t [.p none, .i .i64 1])) ∧ Fr h [] h' := by
  refine To_body' rfl F_link_New (Nat.le_of_ble_eq_true rfl) ?_
  simp only [go_sem, Nat.reduceLT, Nat.reduceLeDiff, Nat.reduceEqDiff, Nat.reduceAdd, Nat.reduceMul, Nat.reduceSub, Int.reduceLT, Int.reduceLE, Int.reduceEq, Int.reduceNe, Int.reduceToNat, Int.reduceAdd, Int.reduceSub, Int.reduceMul, Int.reduceNeg, Int.reduceBEq, Int.reduceBNe, Nat.reduceBEq, b_link_New, Cf.cs]
  refine Pc_ex (s_linkCheck a b room _) fun H1 F1 => ?_
  have g1 := F1.get (get_new0 _) (by simp)
  by_cases e : lkOk a b room
  rotate_left
  · simp only [go_sem, Nat.reduceLT, Nat.reduceLeDiff, Nat.reduceEqDiff, Nat.reduceAdd, Nat.reduceMul, Nat.reduceSub, Int.reduceLT, Int.reduceLE, Int.reduceEq, Int.reduceNe, Int.reduceToNat, Int.reduceAdd, Int.reduceSub, Int.reduceMul, Int.reduceNeg, Int.reduceBEq, Int.reduceBNe, Nat.reduceBEq, if_neg e]
    exact ⟨_, rfl, .inr ⟨e, rfl⟩, Fr.app0 F1⟩
  simp only [go_sem, Nat.reduceLT, Nat.reduceLeDiff, Nat.reduceEqDiff, Nat.reduceAdd, Nat.reduceMul, Nat.reduceSub, Int.reduceLT, Int.reduceLE, Int.reduceEq, Int.reduceNe, Int.reduceToNat, Int.reduceAdd, Int.reduceSub, Int.reduceMul, Int.reduceNeg, Int.reduceBEq, Int.reduceBNe, Nat.reduceBEq, if_pos e]
  refine Pc_exv (s_wireNew _) fun v H2 ⟨⟨w, hv, _, cs, hcs, hw⟩, F2⟩ => ?_
  subst hv
  have g2 := F2.get g1 (by simp)
  simp only [go_sem, Nat.reduceLT, Nat.reduceLeDiff, Nat.reduceEqDiff, Nat.reduceAdd, Nat.reduceMul, Nat.reduceSub, Int.reduceLT, Int.reduceLE, Int.reduceEq, Int.reduceNe, Int.reduceToNat, Int.reduceAdd, Int.reduceSub, Int.reduceMul, Int.reduceNeg, Int.reduceBEq, Int.reduceBNe, Nat.reduceBEq, g2, l_link_New_0, Un_loop, Un_again]
  refine Pc_exv (s_nodeNew e.1 _) fun v H3 ⟨⟨i, hv⟩, F3⟩ => ?_
  subst hv
  have g3 := (Fr.app0 F3).get g2 (by simp)
  have l3 := F3.get (get_new0 _) (by simp)
  have hl3 := lt_of g3
  have ll3 := lt_of l3
  have hn := lt_of g2
  simp only [go_sem, Nat.reduceLT, Nat.reduceLeDiff, Nat.reduceEqDiff, Nat.reduceAdd, Nat.reduceMul, Nat.reduceSub, Int.reduceLT, Int.reduceLE, Int.reduceEq, Int.reduceNe, Int.reduceToNat, Int.reduceAdd, Int.reduceSub, Int.reduceMul, Int.reduceNeg, Int.reduceBEq, Int.reduceBNe, Nat.reduceBEq, g3, l3, Pc_inl (M := M) (f := n_pipe_New) (c := c_pipe_New) rfl F_pipe_New, c_pipe_New, b_pipe_New, Pc_inl (M := M) (f := n_ring_New_string) (c := c_ring_New_string) rfl F_ring_New_string, c_ring_New_string, b_ring_New_string, exists_eq_left', nel hl3, nelk hl3, nelr hl3, nelkr hl3, nel ll3, nelk ll3, nelr ll3, nelkr ll3, hl3, ll3, wrap_i64]
  generalize hH4 : List.set (H3 ++ _) _ _ = H4
  have hle : H3.length + 2 = H4.length := by rw [← hH4, List.length_set]; simp
  have hl1 := lt_of g1
  have hF2 := F2.1
  have g4 : H4[h.length]? = H3[h.length]? := by
    rw [← hH4, List.getElem?_set_ne (by omega), List.getElem?_append_left hl3]
  rw [g3] at g4
  have l4 : H4[H2.length]? = some (.cells [.p (some (w, 0)), .p (some (i, 0)), .p (some (H3.length + 1, 0)), .p none, .p none] false none) := by
    rw [← hH4, List.getElem?_set_self (by simp; omega)]
  have F4 : Fr h [] H4 := by
    rw [← hH4]
    have hF2 := F2.1
    have hF1 := (Fr.app0 F1).1
    exact ((((Fr.app0 F1).trans F2 (by simp)).trans (Fr.app0 F3) (by simp)).app _).set (.inr (by omega)) _
  simp only [go_sem, Nat.reduceLT, Nat.reduceLeDiff, Nat.reduceEqDiff, Nat.reduceAdd, Nat.reduceMul, Nat.reduceSub, Int.reduceLT, Int.reduceLE, Int.reduceEq, Int.reduceNe, Int.reduceToNat, Int.reduceAdd, Int.reduceSub, Int.reduceMul, Int.reduceNeg, Int.reduceBEq, Int.reduceBNe, Nat.reduceBEq, g4, l4, l_link_New_0, Un_loop, Un_again, wrap_i64]
  refine Pc_exv (s_nodeNew e.2.1 _) fun v H5 ⟨⟨j, hv⟩, F5⟩ => ?_
  subst hv
  have g5 := (Fr.app0 F5).get g4 (by simp)
  have l5 := (Fr.app0 F5).get l4 (by simp)
  have hl5 := lt_of g5
  have ll5 := lt_of l5
  simp only [go_sem, Nat.reduceLT, Nat.reduceLeDiff, Nat.reduceEqDiff, Nat.reduceAdd, Nat.reduceMul, Nat.reduceSub, Int.reduceLT, Int.reduceLE, Int.reduceEq, Int.reduceNe, Int.reduceToNat, Int.reduceAdd, Int.reduceSub, Int.reduceMul, Int.reduceNeg, Int.reduceBEq, Int.reduceBNe, Nat.reduceBEq, g5, l5, Pc_inl (M := M) (f := n_pipe_New) (c := c_pipe_New) rfl F_pipe_New, c_pipe_New, b_pipe_New, Pc_inl (M := M) (f := n_ring_New_string) (c := c_ring_New_string) rfl F_ring_New_string, c_ring_New_string, b_ring_New_string, exists_eq_left', nel hl5, nelk hl5, nelr hl5, nelkr hl5, nel ll5, nelk ll5, nelr ll5, nelkr ll5, hl5, ll5, wrap_i64]
  generalize hH6 : List.set (H5 ++ _) _ _ = H6
  have F6 : Fr h [] H6 := by
    rw [← hH6]
    have hF2 := F2.1
    have hF1 := (Fr.app0 F1).1
    exact ((F4.trans (Fr.app0 F5) (by simp)).app _).set (.inr (by omega)) _
  simp only [go_sem, Nat.reduceLT, Nat.reduceLeDiff, Nat.reduceEqDiff, Nat.reduceAdd, Nat.reduceMul, Nat.reduceSub, Int.reduceLT, Int.reduceLE, Int.reduceEq, Int.reduceNe, Int.reduceToNat, Int.reduceAdd, Int.reduceSub, Int.reduceMul, Int.reduceNeg, Int.reduceBEq, Int.reduceBNe, Nat.reduceBEq, l_link_New_0, Un_loop, Un_again, wrap_i64]
  exact ⟨.inl ⟨e, _, rfl⟩, F6⟩
end Am
end Go.Proofs.YtcndgnddipbbgaaGreat
