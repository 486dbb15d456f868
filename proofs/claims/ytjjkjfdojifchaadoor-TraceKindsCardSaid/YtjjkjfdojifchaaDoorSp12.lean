/-
  WHAT THE FUNCTIONS COME TO, part 12: words that are read: numbers, lists of them, kinds.
  Conditions: none.
-/
import Derived.Test.YtjjkjfdojifchaaDoorSp9
set_option linter.unusedVariables false
set_option linter.unusedSimpArgs false
namespace Go.Proofs.YtjjkjfdojifchaaDoor
namespace Am
theorem s_HasPrefix (s p : List UInt8) (h : Heap) : To M n_istringslite_HasPrefix [.s s, .s p] h (.b (decide (s.take p.length = p))) h := by
  refine To_body rfl F_istringslite_HasPrefix (Nat.le_of_ble_eq_true rfl) ?_
  simp only [go_sem, Nat.reduceLT, Nat.reduceLeDiff, Nat.reduceEqDiff, Nat.reduceAdd, Nat.reduceMul, Nat.reduceSub, Int.reduceLT, Int.reduceLE, Int.reduceEq, Int.reduceNe, Int.reduceToNat, Int.reduceAdd, Int.reduceSub, Int.reduceMul, Int.reduceNeg, Int.reduceBEq, Int.reduceBNe, Nat.reduceBEq, b_istringslite_HasPrefix]
  refine Gd_split (fun e => ?_) (fun e => ?_)
  · have e' := of_decide_eq_true e
    simp only [go_sem, Nat.reduceLT, Nat.reduceLeDiff, Nat.reduceEqDiff, Nat.reduceAdd, Nat.reduceMul, Nat.reduceSub, Int.reduceLT, Int.reduceLE, Int.reduceEq, Int.reduceNe, Int.reduceToNat, Int.reduceAdd, Int.reduceSub, Int.reduceMul, Int.reduceNeg, Int.reduceBEq, Int.reduceBNe, Nat.reduceBEq, e, show p.length ≤ s.length by omega]
  · have e' := of_decide_eq_false e
    simp only [go_sem, Nat.reduceLT, Nat.reduceLeDiff, Nat.reduceEqDiff, Nat.reduceAdd, Nat.reduceMul, Nat.reduceSub, Int.reduceLT, Int.reduceLE, Int.reduceEq, Int.reduceNe, Int.reduceToNat, Int.reduceAdd, Int.reduceSub, Int.reduceMul, Int.reduceNeg, Int.reduceBEq, Int.reduceBNe, Nat.reduceBEq, e]
    rw [eq_comm, decide_eq_false_iff_not]
    intro c
    have := congrArg List.length c
    rw [List.length_take] at this
    omega
/-- Without what stands ahead; was it there? -/
def cutP (s p : List UInt8) : List UInt8 := if s.take p.length = p then s.drop p.length else s
theorem s_CutPrefix0 (s p : List UInt8) (h : Heap) : To M n_istringslite_CutPrefix [.s s, .s p] h (.t [.s (cutP s p), .b (decide (s.take p.length = p))]) h := by
  refine To_body rfl F_istringslite_CutPrefix (Nat.le_of_ble_eq_true rfl) ?_
  simp only [go_sem, Nat.reduceLT, Nat.reduceLeDiff, Nat.reduceEqDiff, Nat.reduceAdd, Nat.reduceMul, Nat.reduceSub, Int.reduceLT, Int.reduceLE, Int.reduceEq, Int.reduceNe, Int.reduceToNat, Int.reduceAdd, Int.reduceSub, Int.reduceMul, Int.reduceNeg, Int.reduceBEq, Int.reduceBNe, Nat.reduceBEq, b_istringslite_CutPrefix, Pc_to (s_HasPrefix _ _ _)]
  by_cases hp : s.take p.length = p
  · have hl : p.length ≤ s.length := by
      have := congrArg List.length hp
      rw [List.length_take] at this
      omega
    simp only [go_sem, Nat.reduceLT, Nat.reduceLeDiff, Nat.reduceEqDiff, Nat.reduceAdd, Nat.reduceMul, Nat.reduceSub, Int.reduceLT, Int.reduceLE, Int.reduceEq, Int.reduceNe, Int.reduceToNat, Int.reduceAdd, Int.reduceSub, Int.reduceMul, Int.reduceNeg, Int.reduceBEq, Int.reduceBNe, Nat.reduceBEq, hp, hl]
    rw [cutP, if_pos hp, List.take_length]
  · simp only [go_sem, Nat.reduceLT, Nat.reduceLeDiff, Nat.reduceEqDiff, Nat.reduceAdd, Nat.reduceMul, Nat.reduceSub, Int.reduceLT, Int.reduceLE, Int.reduceEq, Int.reduceNe, Int.reduceToNat, Int.reduceAdd, Int.reduceSub, Int.reduceMul, Int.reduceNeg, Int.reduceBEq, Int.reduceBNe, Nat.reduceBEq, hp]
    rw [cutP, if_neg hp]
theorem s_CutPrefix (s p : List UInt8) (h : Heap) : To M n_strings_CutPrefix [.s s, .s p] h (.t [.s (cutP s p), .b (decide (s.take p.length = p))]) h := by
  refine To_body rfl F_strings_CutPrefix (Nat.le_of_ble_eq_true rfl) ?_
  simp only [go_sem, Nat.reduceLT, Nat.reduceLeDiff, Nat.reduceEqDiff, Nat.reduceAdd, Nat.reduceMul, Nat.reduceSub, Int.reduceLT, Int.reduceLE, Int.reduceEq, Int.reduceNe, Int.reduceToNat, Int.reduceAdd, Int.reduceSub, Int.reduceMul, Int.reduceNeg, Int.reduceBEq, Int.reduceBNe, Nat.reduceBEq, b_strings_CutPrefix, Pc_to (s_CutPrefix0 _ _ _)]
/-- The number of a word behind its letters. -/
def numP (s p : List UInt8) : Option Int :=
  if s.take p.length = p then
    match Lib.atoiAll (s.drop p.length) with
    | .ok n => if itoaL n = s.drop p.length ∧ 0 ≤ n ∧ n < 16777216 then some n else none
    | _ => none
  else none
theorem s_number (s p : List UInt8) (h : Heap) (hg : glOk h = true) (hl : s.length ≤ 100000) :
    ∃ v h', To M n_trace_number [.s s, .s p] h v h' ∧ Keeps h h' ∧ ∃ n b, v = .t [.i .i64 n, .b b] ∧ (b = true → numP s p = some n) ∧ (b = false → numP s p = none) := by
  have hcl : (cutP s p).length ≤ 1000000 := by
    unfold cutP
    split
    · rw [List.length_drop]; omega
    · omega
  refine To_body' rfl F_trace_number (Nat.le_of_ble_eq_true rfl) ?_
  simp only [go_sem, Nat.reduceLT, Nat.reduceLeDiff, Nat.reduceEqDiff, Nat.reduceAdd, Nat.reduceMul, Nat.reduceSub, Int.reduceLT, Int.reduceLE, Int.reduceEq, Int.reduceNe, Int.reduceToNat, Int.reduceAdd, Int.reduceSub, Int.reduceMul, Int.reduceNeg, Int.reduceBEq, Int.reduceBNe, Nat.reduceBEq, b_trace_number, Pc_to (s_CutPrefix _ _ _)]
  by_cases hok : ∃ v, Lib.atoiAll (cutP s p) = .ok v
  · obtain ⟨v, hv⟩ := hok
    obtain ⟨b1, b2⟩ := atoi_bounds hv
    simp only [go_sem, Nat.reduceLT, Nat.reduceLeDiff, Nat.reduceEqDiff, Nat.reduceAdd, Nat.reduceMul, Nat.reduceSub, Int.reduceLT, Int.reduceLE, Int.reduceEq, Int.reduceNe, Int.reduceToNat, Int.reduceAdd, Int.reduceSub, Int.reduceMul, Int.reduceNeg, Int.reduceBEq, Int.reduceBNe, Nat.reduceBEq, Pc_to (s_Atoi_ok (cutP s p) h hg hcl v hv), Pc_to (s_Itoa v h hg b1 b2)]
    by_cases hp : s.take p.length = p
    · have hcp : cutP s p = s.drop p.length := by rw [cutP, if_pos hp]
      have hn : numP s p = if itoaL v = s.drop p.length ∧ 0 ≤ v ∧ v < 16777216 then some v else none := by
        rw [numP, if_pos hp, ← hcp, hv]
      simp only [go_sem, Nat.reduceLT, Nat.reduceLeDiff, Nat.reduceEqDiff, Nat.reduceAdd, Nat.reduceMul, Nat.reduceSub, Int.reduceLT, Int.reduceLE, Int.reduceEq, Int.reduceNe, Int.reduceToNat, Int.reduceAdd, Int.reduceSub, Int.reduceMul, Int.reduceNeg, Int.reduceBEq, Int.reduceBNe, Nat.reduceBEq, hp, Pc_to (s_Itoa v h hg b1 b2)]
      by_cases h1 : itoaL v = s.drop p.length
      · simp only [go_sem, Nat.reduceLT, Nat.reduceLeDiff, Nat.reduceEqDiff, Nat.reduceAdd, Nat.reduceMul, Nat.reduceSub, Int.reduceLT, Int.reduceLE, Int.reduceEq, Int.reduceNe, Int.reduceToNat, Int.reduceAdd, Int.reduceSub, Int.reduceMul, Int.reduceNeg, Int.reduceBEq, Int.reduceBNe, Nat.reduceBEq, hcp, h1]
        by_cases h2 : 0 ≤ v
        · simp only [go_sem, Nat.reduceLT, Nat.reduceLeDiff, Nat.reduceEqDiff, Nat.reduceAdd, Nat.reduceMul, Nat.reduceSub, Int.reduceLT, Int.reduceLE, Int.reduceEq, Int.reduceNe, Int.reduceToNat, Int.reduceAdd, Int.reduceSub, Int.reduceMul, Int.reduceNeg, Int.reduceBEq, Int.reduceBNe, Nat.reduceBEq, h2]
          refine ⟨_, rfl, Keeps.refl _, v, _, rfl, fun e => ?_, fun e => ?_⟩
          · rw [hn, if_pos ⟨h1, h2, of_decide_eq_true e⟩]
          · rw [hn, if_neg (fun c => of_decide_eq_false e c.2.2)]
        · simp only [go_sem, Nat.reduceLT, Nat.reduceLeDiff, Nat.reduceEqDiff, Nat.reduceAdd, Nat.reduceMul, Nat.reduceSub, Int.reduceLT, Int.reduceLE, Int.reduceEq, Int.reduceNe, Int.reduceToNat, Int.reduceAdd, Int.reduceSub, Int.reduceMul, Int.reduceNeg, Int.reduceBEq, Int.reduceBNe, Nat.reduceBEq, h2]
          refine ⟨_, rfl, Keeps.refl _, v, _, rfl, fun e => ?_, fun e => ?_⟩
          · cases e
          · rw [hn, if_neg (fun c => h2 c.2.1)]
      · simp only [go_sem, Nat.reduceLT, Nat.reduceLeDiff, Nat.reduceEqDiff, Nat.reduceAdd, Nat.reduceMul, Nat.reduceSub, Int.reduceLT, Int.reduceLE, Int.reduceEq, Int.reduceNe, Int.reduceToNat, Int.reduceAdd, Int.reduceSub, Int.reduceMul, Int.reduceNeg, Int.reduceBEq, Int.reduceBNe, Nat.reduceBEq, hcp, h1]
        refine ⟨_, rfl, Keeps.refl _, v, _, rfl, fun e => ?_, fun e => ?_⟩
        · cases e
        · rw [hn, if_neg (fun c => h1 c.1)]
    · simp only [go_sem, Nat.reduceLT, Nat.reduceLeDiff, Nat.reduceEqDiff, Nat.reduceAdd, Nat.reduceMul, Nat.reduceSub, Int.reduceLT, Int.reduceLE, Int.reduceEq, Int.reduceNe, Int.reduceToNat, Int.reduceAdd, Int.reduceSub, Int.reduceMul, Int.reduceNeg, Int.reduceBEq, Int.reduceBNe, Nat.reduceBEq, hp]
      refine ⟨_, rfl, Keeps.refl _, v, _, rfl, fun e => ?_, fun e => ?_⟩
      · cases e
      · rw [numP, if_neg hp]
  · have hno : ∀ v, Lib.atoiAll (cutP s p) ≠ .ok v := fun v e => hok ⟨v, e⟩
    obtain ⟨n, ht⟩ := s_Atoi_err (cutP s p) h hg hcl hno
    have hnone : numP s p = none := by
      rw [numP]
      split
      · rename_i hp
        have hcp : cutP s p = s.drop p.length := by rw [cutP, if_pos hp]
        rw [← hcp]
        split
        · rename_i v hv; exact absurd hv (hno v)
        · rfl
      · rfl
    by_cases hp : s.take p.length = p
    · simp only [go_sem, Nat.reduceLT, Nat.reduceLeDiff, Nat.reduceEqDiff, Nat.reduceAdd, Nat.reduceMul, Nat.reduceSub, Int.reduceLT, Int.reduceLE, Int.reduceEq, Int.reduceNe, Int.reduceToNat, Int.reduceAdd, Int.reduceSub, Int.reduceMul, Int.reduceNeg, Int.reduceBEq, Int.reduceBNe, Nat.reduceBEq, Pc_to ht, hp]
      exact ⟨_, rfl, Keeps.app _ _, n, false, rfl, (fun e => by cases e), (fun _ => hnone)⟩
    · simp only [go_sem, Nat.reduceLT, Nat.reduceLeDiff, Nat.reduceEqDiff, Nat.reduceAdd, Nat.reduceMul, Nat.reduceSub, Int.reduceLT, Int.reduceLE, Int.reduceEq, Int.reduceNe, Int.reduceToNat, Int.reduceAdd, Int.reduceSub, Int.reduceMul, Int.reduceNeg, Int.reduceBEq, Int.reduceBNe, Nat.reduceBEq, Pc_to ht, hp]
      exact ⟨_, rfl, Keeps.app _ _, n, false, rfl, (fun e => by cases e), (fun _ => hnone)⟩
theorem lo_low {x : Int} (h : lowI x) : lo x = x := by
  unfold lowI at h
  rw [lo_eq h.1 (by omega)]; omega
theorem s_Of (n : Int) (hn : lowI n) (h : Heap) : To M n_seq_Of [.i .i64 n] h (.i .u32 n) h := by
  refine To_body rfl F_seq_Of (Nat.le_of_ble_eq_true rfl) ?_
  have := hn
  unfold lowI at this
  simp only [go_sem, Nat.reduceLT, Nat.reduceLeDiff, Nat.reduceEqDiff, Nat.reduceAdd, Nat.reduceMul, Nat.reduceSub, Int.reduceLT, Int.reduceLE, Int.reduceEq, Int.reduceNe, Int.reduceToNat, Int.reduceAdd, Int.reduceSub, Int.reduceMul, Int.reduceNeg, Int.reduceBEq, Int.reduceBNe, Nat.reduceBEq, b_seq_Of, wrap_u32 (show 0 ≤ n by omega) (show n ≤ 4294967295 by omega)]
  exact lo_low hn
/-- The kind that a word names; 0: none. -/
def kindP (s : List UInt8) : Int :=
  if nameL 1 = s then 1 else if nameL 2 = s then 2 else if nameL 3 = s then 3 else if nameL 4 = s then 4 else if nameL 5 = s then 5 else if nameL 6 = s then 6 else if nameL 7 = s then 7 else
  if nameL 8 = s then 8 else if nameL 9 = s then 9 else if nameL 10 = s then 10 else if nameL 11 = s then 11 else if nameL 12 = s then 12 else if nameL 13 = s then 13 else if nameL 14 = s then 14 else
  if nameL 15 = s then 15 else 0
/-- .. from one on. -/
def kindF (s : List UInt8) : Nat → Int → Int
  | 0, _ => 0
  | n + 1, k => if nameL k = s then k else kindF s n (k + 1)
theorem kind_loop {kk : List K} {Q : X → List V → Heap → Prop} {h0 : Heap} {s : List UInt8} {r : Int}
    (hret : ∀ g' H, g' 2 = .i .i64 r → Keeps h0 H → Un M kk .ret (frL 14 g') H Q) (hex : r = 0 → ∀ g' H, Keeps h0 H → Un M kk (.ex 0) (frL 14 g') H Q) :
    ∀ (n : Nat) (k : Int) (g : Nat → V) (H : Heap), k + n = 16 → 0 ≤ k → kindF s n k = r → g 0 = .s s → g 3 = .i .i64 k → Keeps h0 H → Un M (.code (.loop l_trace_kind_0) :: kk) .nrm (frL 14 g) H Q := by
  intro n
  induction n with
  | zero =>
    intro k g H hk hk0 hr h0 h3 hkk
    rw [Un_loop]
    simp only [go_sem, Nat.reduceLT, Nat.reduceLeDiff, Nat.reduceEqDiff, Nat.reduceAdd, Nat.reduceMul, Nat.reduceSub, Int.reduceLT, Int.reduceLE, Int.reduceEq, Int.reduceNe, Int.reduceToNat, Int.reduceAdd, Int.reduceSub, Int.reduceMul, Int.reduceNeg, Int.reduceBEq, Int.reduceBNe, Nat.reduceBEq, l_trace_kind_0, h0, h3, show ¬ k ≤ 15 by omega]
    exact hex hr.symm _ H hkk
  | succ n ih =>
    intro k g H hk hk0 hr h0 h3 hkk
    rw [Un_loop]
    simp only [go_sem, Nat.reduceLT, Nat.reduceLeDiff, Nat.reduceEqDiff, Nat.reduceAdd, Nat.reduceMul, Nat.reduceSub, Int.reduceLT, Int.reduceLE, Int.reduceEq, Int.reduceNe, Int.reduceToNat, Int.reduceAdd, Int.reduceSub, Int.reduceMul, Int.reduceNeg, Int.reduceBEq, Int.reduceBNe, Nat.reduceBEq, l_trace_kind_0, h0, h3, show k ≤ 15 by omega]
    have hname := s_Name ⟨k, 0, 0, 0, 0, [], false, []⟩ H none (some 0) 0
    simp only [uV, List.length_nil] at hname
    refine Pc_ofG hname fun os => ?_
    simp only [go_sem, Nat.reduceLT, Nat.reduceLeDiff, Nat.reduceEqDiff, Nat.reduceAdd, Nat.reduceMul, Nat.reduceSub, Int.reduceLT, Int.reduceLE, Int.reduceEq, Int.reduceNe, Int.reduceToNat, Int.reduceAdd, Int.reduceSub, Int.reduceMul, Int.reduceNeg, Int.reduceBEq, Int.reduceBNe, Nat.reduceBEq, h0]
    refine Br_split (fun e => ?_) (fun e => ?_)
    · have e' := of_decide_eq_true e
      simp only [go_sem, Nat.reduceLT, Nat.reduceLeDiff, Nat.reduceEqDiff, Nat.reduceAdd, Nat.reduceMul, Nat.reduceSub, Int.reduceLT, Int.reduceLE, Int.reduceEq, Int.reduceNe, Int.reduceToNat, Int.reduceAdd, Int.reduceSub, Int.reduceMul, Int.reduceNeg, Int.reduceBEq, Int.reduceBNe, Nat.reduceBEq, h3]
      refine hret _ _ ?_ (hkk.apps _)
      simp only [go_sem, Nat.reduceLT, Nat.reduceLeDiff, Nat.reduceEqDiff, Nat.reduceAdd, Nat.reduceMul, Nat.reduceSub, Int.reduceLT, Int.reduceLE, Int.reduceEq, Int.reduceNe, Int.reduceToNat, Int.reduceAdd, Int.reduceSub, Int.reduceMul, Int.reduceNeg, Int.reduceBEq, Int.reduceBNe, Nat.reduceBEq]
      rw [← hr, kindF, if_pos e']
    · have e' := of_decide_eq_false e
      simp only [go_sem, Nat.reduceLT, Nat.reduceLeDiff, Nat.reduceEqDiff, Nat.reduceAdd, Nat.reduceMul, Nat.reduceSub, Int.reduceLT, Int.reduceLE, Int.reduceEq, Int.reduceNe, Int.reduceToNat, Int.reduceAdd, Int.reduceSub, Int.reduceMul, Int.reduceNeg, Int.reduceBEq, Int.reduceBNe, Nat.reduceBEq, h3, wrap_i64 (show -9223372036854775808 ≤ k + 1 by omega) (show k + 1 ≤ 9223372036854775807 by omega), Un_again]
      refine ih (k + 1) _ _ (by omega) (by omega) ?_ (by simp only [go_sem, Nat.reduceLT, Nat.reduceLeDiff, Nat.reduceEqDiff, Nat.reduceAdd, Nat.reduceMul, Nat.reduceSub, Int.reduceLT, Int.reduceLE, Int.reduceEq, Int.reduceNe, Int.reduceToNat, Int.reduceAdd, Int.reduceSub, Int.reduceMul, Int.reduceNeg, Int.reduceBEq, Int.reduceBNe, Nat.reduceBEq, h0]) (by simp only [go_sem, Nat.reduceLT, Nat.reduceLeDiff, Nat.reduceEqDiff, Nat.reduceAdd, Nat.reduceMul, Nat.reduceSub, Int.reduceLT, Int.reduceLE, Int.reduceEq, Int.reduceNe, Int.reduceToNat, Int.reduceAdd, Int.reduceSub, Int.reduceMul, Int.reduceNeg, Int.reduceBEq, Int.reduceBNe, Nat.reduceBEq]) (hkk.apps _)
      rw [← hr, kindF, if_neg e']
theorem s_kind (s : List UInt8) (h : Heap) : ∃ v h', To M n_trace_kind [.s s] h v h' ∧ v = .i .i64 (kindP s) ∧ Keeps h h' := by
  have hF : kindF s 15 1 = kindP s := by simp only [kindF, kindP]; rfl
  refine To_body' rfl F_trace_kind (Nat.le_of_ble_eq_true rfl) ?_
  simp only [go_sem, Nat.reduceLT, Nat.reduceLeDiff, Nat.reduceEqDiff, Nat.reduceAdd, Nat.reduceMul, Nat.reduceSub, Int.reduceLT, Int.reduceLE, Int.reduceEq, Int.reduceNe, Int.reduceToNat, Int.reduceAdd, Int.reduceSub, Int.reduceMul, Int.reduceNeg, Int.reduceBEq, Int.reduceBNe, Nat.reduceBEq, b_trace_kind]
  refine kind_loop (h0 := h) (s := s) (r := kindP s) (fun g' H h2 hk => ?_) (fun hr g' H hk => ?_) 15 1 _ h (by omega) (by omega) hF ?_ ?_ (Keeps.refl _)
  · simp only [go_sem, Nat.reduceLT, Nat.reduceLeDiff, Nat.reduceEqDiff, Nat.reduceAdd, Nat.reduceMul, Nat.reduceSub, Int.reduceLT, Int.reduceLE, Int.reduceEq, Int.reduceNe, Int.reduceToNat, Int.reduceAdd, Int.reduceSub, Int.reduceMul, Int.reduceNeg, Int.reduceBEq, Int.reduceBNe, Nat.reduceBEq, h2]
    exact ⟨_, rfl, rfl, hk⟩
  · simp only [go_sem, Nat.reduceLT, Nat.reduceLeDiff, Nat.reduceEqDiff, Nat.reduceAdd, Nat.reduceMul, Nat.reduceSub, Int.reduceLT, Int.reduceLE, Int.reduceEq, Int.reduceNe, Int.reduceToNat, Int.reduceAdd, Int.reduceSub, Int.reduceMul, Int.reduceNeg, Int.reduceBEq, Int.reduceBNe, Nat.reduceBEq]
    exact ⟨_, rfl, by rw [hr], hk⟩
  · (first | (simp only [go_sem, Nat.reduceLT, Nat.reduceLeDiff, Nat.reduceEqDiff, Nat.reduceAdd, Nat.reduceMul, Nat.reduceSub, Int.reduceLT, Int.reduceLE, Int.reduceEq, Int.reduceNe, Int.reduceToNat, Int.reduceAdd, Int.reduceSub, Int.reduceMul, Int.reduceNeg, Int.reduceBEq, Int.reduceBNe, Nat.reduceBEq]; done) | (simp only [go_sem, Nat.reduceLT, Nat.reduceLeDiff, Nat.reduceEqDiff, Nat.reduceAdd, Nat.reduceMul, Nat.reduceSub, Int.reduceLT, Int.reduceLE, Int.reduceEq, Int.reduceNe, Int.reduceToNat, Int.reduceAdd, Int.reduceSub, Int.reduceMul, Int.reduceNeg, Int.reduceBEq, Int.reduceBNe, Nat.reduceBEq]; rfl) | rfl)
  · (first | (simp only [go_sem, Nat.reduceLT, Nat.reduceLeDiff, Nat.reduceEqDiff, Nat.reduceAdd, Nat.reduceMul, Nat.reduceSub, Int.reduceLT, Int.reduceLE, Int.reduceEq, Int.reduceNe, Int.reduceToNat, Int.reduceAdd, Int.reduceSub, Int.reduceMul, Int.reduceNeg, Int.reduceBEq, Int.reduceBNe, Nat.reduceBEq]; done) | (simp only [go_sem, Nat.reduceLT, Nat.reduceLeDiff, Nat.reduceEqDiff, Nat.reduceAdd, Nat.reduceMul, Nat.reduceSub, Int.reduceLT, Int.reduceLE, Int.reduceEq, Int.reduceNe, Int.reduceToNat, Int.reduceAdd, Int.reduceSub, Int.reduceMul, Int.reduceNeg, Int.reduceBEq, Int.reduceBNe, Nat.reduceBEq]; rfl) | rfl)
end Am
end Go.Proofs.YtjjkjfdojifchaaDoor
