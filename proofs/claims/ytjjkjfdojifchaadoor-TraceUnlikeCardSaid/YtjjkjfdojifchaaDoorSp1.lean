/-
  WHAT THE FUNCTIONS COME TO, part 1: numbers of 24 bits, what a kind has, which units may be.
  Conditions: none.
-/
import Derived.Test.YtjjkjfdojifchaaDoorOrc
set_option linter.unusedVariables false
set_option linter.unusedSimpArgs false
namespace Go.Proofs.YtjjkjfdojifchaaDoor
namespace Am

/-- The lowest 24 bits. -/
def lo (x : Int) : Int := IntKind.u32.wrap (BitVec.ofInt 32 x &&& BitVec.ofInt 32 16777215).toNat
theorem s_low (x : Int) (h : Heap) : To M n_seq_Num_Low [.i .u32 x] h (.i .u32 (lo x)) h := by
  refine To_body rfl F_seq_Num_Low (Nat.le_of_ble_eq_true rfl) ?_
  simp only [go_sem, Nat.reduceLT, Nat.reduceLeDiff, Nat.reduceEqDiff, Nat.reduceAdd, Nat.reduceMul, Nat.reduceSub, Int.reduceLT, Int.reduceLE, Int.reduceEq, Int.reduceNe, Int.reduceToNat, Int.reduceAdd, Int.reduceSub, Int.reduceMul, Int.reduceNeg, Int.reduceBEq, Int.reduceBNe, Nat.reduceBEq, b_seq_Num_Low]
  rfl
theorem s_plow (x : Int) (h : Heap) : To M n_pdu_low [.i .u32 x] h (.b (decide (x = lo x))) h := by
  refine To_body rfl F_pdu_low (Nat.le_of_ble_eq_true rfl) ?_
  simp only [go_sem, Nat.reduceLT, Nat.reduceLeDiff, Nat.reduceEqDiff, Nat.reduceAdd, Nat.reduceMul, Nat.reduceSub, Int.reduceLT, Int.reduceLE, Int.reduceEq, Int.reduceNe, Int.reduceToNat, Int.reduceAdd, Int.reduceSub, Int.reduceMul, Int.reduceNeg, Int.reduceBEq, Int.reduceBNe, Nat.reduceBEq, b_pdu_low, Pc_to (s_low _ _)]
theorem s_ck1 (x : Int) (h : Heap) : To M n_pdu_PDU_Check_1 [.i .u32 x] h (.b (!decide (x = lo x))) h := by
  refine To_body rfl F_pdu_PDU_Check_1 (Nat.le_of_ble_eq_true rfl) ?_
  simp only [go_sem, Nat.reduceLT, Nat.reduceLeDiff, Nat.reduceEqDiff, Nat.reduceAdd, Nat.reduceMul, Nat.reduceSub, Int.reduceLT, Int.reduceLE, Int.reduceEq, Int.reduceNe, Int.reduceToNat, Int.reduceAdd, Int.reduceSub, Int.reduceMul, Int.reduceNeg, Int.reduceBEq, Int.reduceBNe, Nat.reduceBEq, b_pdu_PDU_Check_1, Pc_to (s_plow _ _)]

/-! ### What a kind has -/
/-- Its data's bytes; an SQ; a number; a list's words; a poll's number; a credit; by itself; is there one? -/
def shp (k : Int) : List V :=
  if k = 1 ∨ k = 5 then [.i .i64 64, .b true, .b true, .i .i64 0, .b false, .b false, .b false, .b true] else
  if k = 2 ∨ k = 6 ∨ k = 9 ∨ k = 15 then [.i .i64 0, .b true, .b true, .i .i64 0, .b false, .b false, .b false, .b true] else
  if k = 7 then [.i .i64 64, .b true, .b false, .i .i64 0, .b false, .b false, .b false, .b true] else
  if k = 3 then [.i .i64 64, .b true, .b false, .i .i64 0, .b false, .b false, .b true, .b true] else
  if k = 4 then [.i .i64 0, .b true, .b false, .i .i64 0, .b false, .b false, .b false, .b true] else
  if k = 8 then [.i .i64 200, .b false, .b true, .i .i64 0, .b false, .b false, .b false, .b true] else
  if k = 10 then [.i .i64 0, .b false, .b true, .i .i64 0, .b true, .b false, .b false, .b true] else
  if k = 11 then [.i .i64 0, .b false, .b true, .i .i64 (-1), .b true, .b true, .b false, .b true] else
  if k = 12 then [.i .i64 0, .b false, .b true, .i .i64 2, .b false, .b true, .b false, .b true] else
  if k = 13 ∨ k = 14 then [.i .i64 200, .b false, .b false, .i .i64 0, .b false, .b false, .b false, .b true] else
  [.i .i64 0, .b false, .b false, .i .i64 0, .b false, .b false, .b false, .b false]
theorem kinds (k : Int) : (k = 1 ∨ k = 2 ∨ k = 3 ∨ k = 4 ∨ k = 5 ∨ k = 6 ∨ k = 7 ∨ k = 8 ∨ k = 9 ∨ k = 10 ∨ k = 11 ∨ k = 12 ∨ k = 13 ∨ k = 14 ∨ k = 15) ∨
    (k ≠ 1 ∧ k ≠ 2 ∧ k ≠ 3 ∧ k ≠ 4 ∧ k ≠ 5 ∧ k ≠ 6 ∧ k ≠ 7 ∧ k ≠ 8 ∧ k ≠ 9 ∧ k ≠ 10 ∧ k ≠ 11 ∧ k ≠ 12 ∧ k ≠ 13 ∧ k ≠ 14 ∧ k ≠ 15) := by omega
theorem s_shapeOf (k : Int) (h : Heap) : ∃ os, To M n_pdu_shapeOf [.i .i64 k] h (.g (shp k)) (h ++ os) := by
  refine grow_of (To_body' rfl F_pdu_shapeOf (Nat.le_of_ble_eq_true rfl) ?_)
  rcases kinds k with hk | hk
  · rcases hk with rfl | rfl | rfl | rfl | rfl | rfl | rfl | rfl | rfl | rfl | rfl | rfl | rfl | rfl | rfl <;> simp only [go_sem, Nat.reduceLT, Nat.reduceLeDiff, Nat.reduceEqDiff, Nat.reduceAdd, Nat.reduceMul, Nat.reduceSub, Int.reduceLT, Int.reduceLE, Int.reduceEq, Int.reduceNe, Int.reduceToNat, Int.reduceAdd, Int.reduceSub, Int.reduceMul, Int.reduceNeg, Int.reduceBEq, Int.reduceBNe, Nat.reduceBEq, b_pdu_shapeOf] <;> exact ⟨_, rfl, rfl, _, rfl⟩
  · simp only [go_sem, Nat.reduceLT, Nat.reduceLeDiff, Nat.reduceEqDiff, Nat.reduceAdd, Nat.reduceMul, Nat.reduceSub, Int.reduceLT, Int.reduceLE, Int.reduceEq, Int.reduceNe, Int.reduceToNat, Int.reduceAdd, Int.reduceSub, Int.reduceMul, Int.reduceNeg, Int.reduceBEq, Int.reduceBNe, Nat.reduceBEq, b_pdu_shapeOf, hk]
    refine ⟨_, rfl, ?_, _, rfl⟩
    simp [shp, hk]

/-! ### Among some -/
theorem in_loop {k : List K} {Q : X → List V → Heap → Prop} {h : Heap} {a : Option (Nat × Nat)} {c : Option Nat} {z : Nat} {l : List Int} {x : Int} (hR : R1 h a z (l.map (.i .i64))) (hL : l.length ≤ 1000000)
    (hret : x ∈ l → ∀ g', g' 4 = .b true → Un M k .ret (frL 17 g') h Q) (hex : x ∉ l → ∀ g', Un M k (.ex 0) (frL 17 g') h Q) :
    ∀ (n i : Nat) (g : Nat → V), i + n = l.length → x ∉ l.take i → g 0 = .i .i64 x → g 7 = .sl a l.length c z → g 8 = .i .i64 l.length → g 9 = .i .i64 i → Un M (.code (.loop l_ref06_in_0) :: k) .nrm (frL 17 g) h Q := by
  intro n
  induction n with
  | zero =>
    intro i g hi hn h0 h7 h8 h9
    have : i = l.length := by omega
    subst this
    rw [Un_loop]
    simp only [go_sem, Nat.reduceLT, Nat.reduceLeDiff, Nat.reduceEqDiff, Nat.reduceAdd, Nat.reduceMul, Nat.reduceSub, Int.reduceLT, Int.reduceLE, Int.reduceEq, Int.reduceNe, Int.reduceToNat, Int.reduceAdd, Int.reduceSub, Int.reduceMul, Int.reduceNeg, Int.reduceBEq, Int.reduceBNe, Nat.reduceBEq, l_ref06_in_0, h0, h7, h8, h9, Int.lt_irrefl]
    rw [List.take_length] at hn
    exact hex hn _
  | succ n ih =>
    intro i g hi hn h0 h7 h8 h9
    have hlt : i < l.length := by omega
    obtain ⟨id, off, vs, ro, ty, rfl, rfl, hid, hv⟩ := hR.lt (i := i) (by simpa using hlt)
    rw [List.getElem_map] at hv
    rw [Un_loop]
    simp only [go_sem, Nat.reduceLT, Nat.reduceLeDiff, Nat.reduceEqDiff, Nat.reduceAdd, Nat.reduceMul, Nat.reduceSub, Int.reduceLT, Int.reduceLE, Int.reduceEq, Int.reduceNe, Int.reduceToNat, Int.reduceAdd, Int.reduceSub, Int.reduceMul, Int.reduceNeg, Int.reduceBEq, Int.reduceBNe, Nat.reduceBEq, l_ref06_in_0, h0, h7, h8, h9, Int.ofNat_lt, hlt, hid, hv]
    by_cases he : l[i] = x
    · simp only [go_sem, Nat.reduceLT, Nat.reduceLeDiff, Nat.reduceEqDiff, Nat.reduceAdd, Nat.reduceMul, Nat.reduceSub, Int.reduceLT, Int.reduceLE, Int.reduceEq, Int.reduceNe, Int.reduceToNat, Int.reduceAdd, Int.reduceSub, Int.reduceMul, Int.reduceNeg, Int.reduceBEq, Int.reduceBNe, Nat.reduceBEq, he]
      exact hret (he ▸ List.getElem_mem _) _ (by simp only [go_sem, Nat.reduceLT, Nat.reduceLeDiff, Nat.reduceEqDiff, Nat.reduceAdd, Nat.reduceMul, Nat.reduceSub, Int.reduceLT, Int.reduceLE, Int.reduceEq, Int.reduceNe, Int.reduceToNat, Int.reduceAdd, Int.reduceSub, Int.reduceMul, Int.reduceNeg, Int.reduceBEq, Int.reduceBNe, Nat.reduceBEq])
    · simp only [go_sem, Nat.reduceLT, Nat.reduceLeDiff, Nat.reduceEqDiff, Nat.reduceAdd, Nat.reduceMul, Nat.reduceSub, Int.reduceLT, Int.reduceLE, Int.reduceEq, Int.reduceNe, Int.reduceToNat, Int.reduceAdd, Int.reduceSub, Int.reduceMul, Int.reduceNeg, Int.reduceBEq, Int.reduceBNe, Nat.reduceBEq, he, h9, wrap_next (show i ≤ 4611686018427387904 by omega), Un_again]
      refine ih (i + 1) _ (by omega) ?_ (by simp only [go_sem, Nat.reduceLT, Nat.reduceLeDiff, Nat.reduceEqDiff, Nat.reduceAdd, Nat.reduceMul, Nat.reduceSub, Int.reduceLT, Int.reduceLE, Int.reduceEq, Int.reduceNe, Int.reduceToNat, Int.reduceAdd, Int.reduceSub, Int.reduceMul, Int.reduceNeg, Int.reduceBEq, Int.reduceBNe, Nat.reduceBEq, h0]) (by simp only [go_sem, Nat.reduceLT, Nat.reduceLeDiff, Nat.reduceEqDiff, Nat.reduceAdd, Nat.reduceMul, Nat.reduceSub, Int.reduceLT, Int.reduceLE, Int.reduceEq, Int.reduceNe, Int.reduceToNat, Int.reduceAdd, Int.reduceSub, Int.reduceMul, Int.reduceNeg, Int.reduceBEq, Int.reduceBNe, Nat.reduceBEq, h7]) (by simp only [go_sem, Nat.reduceLT, Nat.reduceLeDiff, Nat.reduceEqDiff, Nat.reduceAdd, Nat.reduceMul, Nat.reduceSub, Int.reduceLT, Int.reduceLE, Int.reduceEq, Int.reduceNe, Int.reduceToNat, Int.reduceAdd, Int.reduceSub, Int.reduceMul, Int.reduceNeg, Int.reduceBEq, Int.reduceBNe, Nat.reduceBEq, h8]) (by simp only [go_sem, Nat.reduceLT, Nat.reduceLeDiff, Nat.reduceEqDiff, Nat.reduceAdd, Nat.reduceMul, Nat.reduceSub, Int.reduceLT, Int.reduceLE, Int.reduceEq, Int.reduceNe, Int.reduceToNat, Int.reduceAdd, Int.reduceSub, Int.reduceMul, Int.reduceNeg, Int.reduceBEq, Int.reduceBNe, Nat.reduceBEq])
      rw [List.take_succ_eq_append_getElem hlt, List.mem_append]
      simp [hn, Ne.symm he]
theorem s_in (x : Int) (l : List Int) (h : Heap) (a : Option (Nat × Nat)) (c : Option Nat) (z n : Nat) (hR : R1 h a z (l.map (.i .i64))) (hL : l.length ≤ 1000000) (hn : l.length = n) :
    To M n_ref06_in [.i .i64 x, .sl a n c z] h (.b (decide (x ∈ l))) h := by
  subst hn
  refine To_body rfl F_ref06_in (Nat.le_of_ble_eq_true rfl) ?_
  simp only [go_sem, Nat.reduceLT, Nat.reduceLeDiff, Nat.reduceEqDiff, Nat.reduceAdd, Nat.reduceMul, Nat.reduceSub, Int.reduceLT, Int.reduceLE, Int.reduceEq, Int.reduceNe, Int.reduceToNat, Int.reduceAdd, Int.reduceSub, Int.reduceMul, Int.reduceNeg, Int.reduceBEq, Int.reduceBNe, Nat.reduceBEq, b_ref06_in]
  refine in_loop (x := x) (c := c) hR hL ?_ ?_ l.length 0 _ (by omega) (by simp) (by simp only [go_sem, Nat.reduceLT, Nat.reduceLeDiff, Nat.reduceEqDiff, Nat.reduceAdd, Nat.reduceMul, Nat.reduceSub, Int.reduceLT, Int.reduceLE, Int.reduceEq, Int.reduceNe, Int.reduceToNat, Int.reduceAdd, Int.reduceSub, Int.reduceMul, Int.reduceNeg, Int.reduceBEq, Int.reduceBNe, Nat.reduceBEq]) (by simp only [go_sem, Nat.reduceLT, Nat.reduceLeDiff, Nat.reduceEqDiff, Nat.reduceAdd, Nat.reduceMul, Nat.reduceSub, Int.reduceLT, Int.reduceLE, Int.reduceEq, Int.reduceNe, Int.reduceToNat, Int.reduceAdd, Int.reduceSub, Int.reduceMul, Int.reduceNeg, Int.reduceBEq, Int.reduceBNe, Nat.reduceBEq]) (by simp only [go_sem, Nat.reduceLT, Nat.reduceLeDiff, Nat.reduceEqDiff, Nat.reduceAdd, Nat.reduceMul, Nat.reduceSub, Int.reduceLT, Int.reduceLE, Int.reduceEq, Int.reduceNe, Int.reduceToNat, Int.reduceAdd, Int.reduceSub, Int.reduceMul, Int.reduceNeg, Int.reduceBEq, Int.reduceBNe, Nat.reduceBEq]) (by (first | (simp only [go_sem, Nat.reduceLT, Nat.reduceLeDiff, Nat.reduceEqDiff, Nat.reduceAdd, Nat.reduceMul, Nat.reduceSub, Int.reduceLT, Int.reduceLE, Int.reduceEq, Int.reduceNe, Int.reduceToNat, Int.reduceAdd, Int.reduceSub, Int.reduceMul, Int.reduceNeg, Int.reduceBEq, Int.reduceBNe, Nat.reduceBEq]; done) | (simp only [go_sem, Nat.reduceLT, Nat.reduceLeDiff, Nat.reduceEqDiff, Nat.reduceAdd, Nat.reduceMul, Nat.reduceSub, Int.reduceLT, Int.reduceLE, Int.reduceEq, Int.reduceNe, Int.reduceToNat, Int.reduceAdd, Int.reduceSub, Int.reduceMul, Int.reduceNeg, Int.reduceBEq, Int.reduceBNe, Nat.reduceBEq]; rfl) | rfl))
  · intro hx g hg
    simp only [go_sem, Nat.reduceLT, Nat.reduceLeDiff, Nat.reduceEqDiff, Nat.reduceAdd, Nat.reduceMul, Nat.reduceSub, Int.reduceLT, Int.reduceLE, Int.reduceEq, Int.reduceNe, Int.reduceToNat, Int.reduceAdd, Int.reduceSub, Int.reduceMul, Int.reduceNeg, Int.reduceBEq, Int.reduceBNe, Nat.reduceBEq, hg, hx]
  · intro hx g
    simp only [go_sem, Nat.reduceLT, Nat.reduceLeDiff, Nat.reduceEqDiff, Nat.reduceAdd, Nat.reduceMul, Nat.reduceSub, Int.reduceLT, Int.reduceLE, Int.reduceEq, Int.reduceNe, Int.reduceToNat, Int.reduceAdd, Int.reduceSub, Int.reduceMul, Int.reduceNeg, Int.reduceBEq, Int.reduceBNe, Nat.reduceBEq, hx]

/-- A row that was laid for it. -/
theorem R1_lit (h : Heap) (l : List V) : R1 (h ++ [.cells l false none]) (some (h.length, 0)) 1 l :=
  ⟨rfl, l, false, none, by rw [get_new0]; rfl, by simp, fun i v hi => by simpa using hi⟩
theorem s_HasSQ (k : Int) (h : Heap) : ∃ os, To M n_ref06_HasSQ [.i .i64 k] h (.b (decide (k ∈ [1, 2, 3, 4, 5, 6, 7, 9, 15]))) (h ++ os) := by
  refine grow_of (To_body' rfl F_ref06_HasSQ (Nat.le_of_ble_eq_true rfl) ?_)
  simp only [go_sem, Nat.reduceLT, Nat.reduceLeDiff, Nat.reduceEqDiff, Nat.reduceAdd, Nat.reduceMul, Nat.reduceSub, Int.reduceLT, Int.reduceLE, Int.reduceEq, Int.reduceNe, Int.reduceToNat, Int.reduceAdd, Int.reduceSub, Int.reduceMul, Int.reduceNeg, Int.reduceBEq, Int.reduceBNe, Nat.reduceBEq, b_ref06_HasSQ]
  refine Pc_of (s_in k [1, 2, 3, 4, 5, 6, 7, 9, 15] _ _ _ _ _ (R1_lit _ _) (by decide) rfl) ?_
  simp only [go_sem, Nat.reduceLT, Nat.reduceLeDiff, Nat.reduceEqDiff, Nat.reduceAdd, Nat.reduceMul, Nat.reduceSub, Int.reduceLT, Int.reduceLE, Int.reduceEq, Int.reduceNe, Int.reduceToNat, Int.reduceAdd, Int.reduceSub, Int.reduceMul, Int.reduceNeg, Int.reduceBEq, Int.reduceBNe, Nat.reduceBEq]
  exact ⟨_, rfl, rfl, _, rfl⟩
theorem s_HasN (k : Int) (h : Heap) : ∃ os, To M n_ref06_HasN [.i .i64 k] h (.b (decide (k ∈ [1, 2, 5, 6, 8, 9, 10, 11, 12, 15]))) (h ++ os) := by
  refine grow_of (To_body' rfl F_ref06_HasN (Nat.le_of_ble_eq_true rfl) ?_)
  simp only [go_sem, Nat.reduceLT, Nat.reduceLeDiff, Nat.reduceEqDiff, Nat.reduceAdd, Nat.reduceMul, Nat.reduceSub, Int.reduceLT, Int.reduceLE, Int.reduceEq, Int.reduceNe, Int.reduceToNat, Int.reduceAdd, Int.reduceSub, Int.reduceMul, Int.reduceNeg, Int.reduceBEq, Int.reduceBNe, Nat.reduceBEq, b_ref06_HasN]
  refine Pc_of (s_in k [1, 2, 5, 6, 8, 9, 10, 11, 12, 15] _ _ _ _ _ (R1_lit _ _) (by decide) rfl) ?_
  simp only [go_sem, Nat.reduceLT, Nat.reduceLeDiff, Nat.reduceEqDiff, Nat.reduceAdd, Nat.reduceMul, Nat.reduceSub, Int.reduceLT, Int.reduceLE, Int.reduceEq, Int.reduceNe, Int.reduceToNat, Int.reduceAdd, Int.reduceSub, Int.reduceMul, Int.reduceNeg, Int.reduceBEq, Int.reduceBNe, Nat.reduceBEq]
  exact ⟨_, rfl, rfl, _, rfl⟩
/-- How many bytes of data. -/
def most (k : Int) : Int := if k ∈ [1, 3, 5, 7] then 64 else if k ∈ [8, 13, 14] then 200 else 0
theorem R1_lit' (h os : Heap) (l : List V) (k : Nat) (hk : os.length = k) : R1 (h ++ (os ++ [.cells l false none])) (some (h.length + k, 0)) 1 l := by
  subst hk
  refine ⟨rfl, l, false, none, ?_, by simp, fun i v hi => by simpa using hi⟩
  rw [get_new, List.getElem?_append_right (Nat.le_refl _), Nat.sub_self]; rfl
theorem s_Most (k : Int) (h : Heap) : ∃ os, To M n_ref06_Most [.i .i64 k] h (.i .i64 (most k)) (h ++ os) := by
  refine grow_of (To_body' rfl F_ref06_Most (Nat.le_of_ble_eq_true rfl) ?_)
  simp only [go_sem, Nat.reduceLT, Nat.reduceLeDiff, Nat.reduceEqDiff, Nat.reduceAdd, Nat.reduceMul, Nat.reduceSub, Int.reduceLT, Int.reduceLE, Int.reduceEq, Int.reduceNe, Int.reduceToNat, Int.reduceAdd, Int.reduceSub, Int.reduceMul, Int.reduceNeg, Int.reduceBEq, Int.reduceBNe, Nat.reduceBEq, b_ref06_Most]
  refine Pc_of (s_in k [1, 3, 5, 7] _ _ _ _ _ (R1_lit _ _) (by decide) rfl) ?_
  simp only [go_sem, Nat.reduceLT, Nat.reduceLeDiff, Nat.reduceEqDiff, Nat.reduceAdd, Nat.reduceMul, Nat.reduceSub, Int.reduceLT, Int.reduceLE, Int.reduceEq, Int.reduceNe, Int.reduceToNat, Int.reduceAdd, Int.reduceSub, Int.reduceMul, Int.reduceNeg, Int.reduceBEq, Int.reduceBNe, Nat.reduceBEq]
  refine Br_split (fun e => ?_) (fun e => ?_)
  · simp only [go_sem, Nat.reduceLT, Nat.reduceLeDiff, Nat.reduceEqDiff, Nat.reduceAdd, Nat.reduceMul, Nat.reduceSub, Int.reduceLT, Int.reduceLE, Int.reduceEq, Int.reduceNe, Int.reduceToNat, Int.reduceAdd, Int.reduceSub, Int.reduceMul, Int.reduceNeg, Int.reduceBEq, Int.reduceBNe, Nat.reduceBEq]
    refine ⟨_, rfl, ?_, _, rfl⟩
    rw [decide_eq_true_eq] at e
    rw [most, if_pos e]
  · simp only [go_sem, Nat.reduceLT, Nat.reduceLeDiff, Nat.reduceEqDiff, Nat.reduceAdd, Nat.reduceMul, Nat.reduceSub, Int.reduceLT, Int.reduceLE, Int.reduceEq, Int.reduceNe, Int.reduceToNat, Int.reduceAdd, Int.reduceSub, Int.reduceMul, Int.reduceNeg, Int.reduceBEq, Int.reduceBNe, Nat.reduceBEq]
    refine Pc_of (s_in k [8, 13, 14] _ _ _ _ _ (R1_lit' _ [_] _ 1 rfl) (by decide) rfl) ?_
    simp only [go_sem, Nat.reduceLT, Nat.reduceLeDiff, Nat.reduceEqDiff, Nat.reduceAdd, Nat.reduceMul, Nat.reduceSub, Int.reduceLT, Int.reduceLE, Int.reduceEq, Int.reduceNe, Int.reduceToNat, Int.reduceAdd, Int.reduceSub, Int.reduceMul, Int.reduceNeg, Int.reduceBEq, Int.reduceBNe, Nat.reduceBEq]
    rw [decide_eq_false_iff_not] at e
    refine Br_split (fun e2 => ?_) (fun e2 => ?_)
    · simp only [go_sem, Nat.reduceLT, Nat.reduceLeDiff, Nat.reduceEqDiff, Nat.reduceAdd, Nat.reduceMul, Nat.reduceSub, Int.reduceLT, Int.reduceLE, Int.reduceEq, Int.reduceNe, Int.reduceToNat, Int.reduceAdd, Int.reduceSub, Int.reduceMul, Int.reduceNeg, Int.reduceBEq, Int.reduceBNe, Nat.reduceBEq]
      rw [decide_eq_true_eq] at e2
      refine ⟨_, rfl, ?_, _, rfl⟩
      rw [most, if_neg e, if_pos e2]
    · simp only [go_sem, Nat.reduceLT, Nat.reduceLeDiff, Nat.reduceEqDiff, Nat.reduceAdd, Nat.reduceMul, Nat.reduceSub, Int.reduceLT, Int.reduceLE, Int.reduceEq, Int.reduceNe, Int.reduceToNat, Int.reduceAdd, Int.reduceSub, Int.reduceMul, Int.reduceNeg, Int.reduceBEq, Int.reduceBNe, Nat.reduceBEq]
      rw [decide_eq_false_iff_not] at e2
      refine ⟨_, rfl, ?_, _, rfl⟩
      rw [most, if_neg e, if_neg e2]
/-- One of 24 bits. -/
def lowI (x : Int) : Prop := 0 ≤ x ∧ x < 16777216
instance (x : Int) : Decidable (lowI x) := by unfold lowI; infer_instance
theorem s_rlow (x : Int) (h : Heap) : To M n_ref06_low [.i .i64 x] h (.b (decide (lowI x))) h := by
  refine To_body rfl F_ref06_low (Nat.le_of_ble_eq_true rfl) ?_
  simp only [go_sem, Nat.reduceLT, Nat.reduceLeDiff, Nat.reduceEqDiff, Nat.reduceAdd, Nat.reduceMul, Nat.reduceSub, Int.reduceLT, Int.reduceLE, Int.reduceEq, Int.reduceNe, Int.reduceToNat, Int.reduceAdd, Int.reduceSub, Int.reduceMul, Int.reduceNeg, Int.reduceBEq, Int.reduceBNe, Nat.reduceBEq, b_ref06_low]
  refine Gd_split (fun e => ?_) (fun e => ?_)
  · simp only [go_sem, Nat.reduceLT, Nat.reduceLeDiff, Nat.reduceEqDiff, Nat.reduceAdd, Nat.reduceMul, Nat.reduceSub, Int.reduceLT, Int.reduceLE, Int.reduceEq, Int.reduceNe, Int.reduceToNat, Int.reduceAdd, Int.reduceSub, Int.reduceMul, Int.reduceNeg, Int.reduceBEq, Int.reduceBNe, Nat.reduceBEq, e]
    have e' := of_decide_eq_true e
    simp [lowI, e']
  · simp only [go_sem, Nat.reduceLT, Nat.reduceLeDiff, Nat.reduceEqDiff, Nat.reduceAdd, Nat.reduceMul, Nat.reduceSub, Int.reduceLT, Int.reduceLE, Int.reduceEq, Int.reduceNe, Int.reduceToNat, Int.reduceAdd, Int.reduceSub, Int.reduceMul, Int.reduceNeg, Int.reduceBEq, Int.reduceBNe, Nat.reduceBEq, e]
    have e' := of_decide_eq_false e
    simp [lowI, e']

/-! ### Which units may be: the document's -/
/-- A unit, as numbers and lists. -/
structure U where
  kind : Int
  sq : Int
  n : Int
  ps : Int
  mr : Int
  list : List Int
  self : Bool
  data : List UInt8
/-- .. as the document's value. -/
def rV (u : U) (a : Option (Nat × Nat)) (c : Option Nat) (z : Nat) : V := .g [.i .i64 u.kind, .i .i64 u.sq, .i .i64 u.n, .i .i64 u.ps, .i .i64 u.mr, .sl a u.list.length c z, .b u.self, .s u.data]
/-- May it be? -/
def okU (u : U) : Prop :=
  1 ≤ u.kind ∧ u.kind ≤ 15 ∧ (u.data.length : Int) ≤ most u.kind ∧ u.list.length ≤ 128 ∧ lowI u.n ∧ lowI u.ps ∧ lowI u.mr ∧ 0 ≤ u.sq ∧ u.sq ≤ 255 ∧
  (u.kind ∈ [1, 2, 3, 4, 5, 6, 7, 9, 15] ∨ u.sq = 0) ∧ (u.kind ∈ [1, 2, 5, 6, 8, 9, 10, 11, 12, 15] ∨ u.n = 0) ∧ (u.kind = 3 ∨ u.self = false) ∧
  (u.kind ∈ [10, 11] ∨ u.ps = 0) ∧ (u.kind ∈ [11, 12] ∨ u.mr = 0) ∧ (u.kind = 11 → u.list.length % 2 = 0) ∧ (u.kind = 12 → u.list.length = 2) ∧ (u.kind ≠ 11 → u.kind ≠ 12 → u.list.length = 0) ∧ ∀ x ∈ u.list, lowI x
theorem rck_loop {k : List K} {Q : X → List V → Heap → Prop} {h : Heap} {a : Option (Nat × Nat)} {c : Option Nat} {z : Nat} {l : List Int} (hR : R1 h a z (l.map (.i .i64))) (hL : l.length ≤ 1000000)
    (hret : (∃ x ∈ l, ¬ lowI x) → ∀ g', g' 2 = .i .i64 1 → Un M k .ret (frL 166 g') h Q) (hex : (∀ x ∈ l, lowI x) → ∀ g', Un M k (.ex 0) (frL 166 g') h Q) :
    ∀ (n i : Nat) (g : Nat → V), i + n = l.length → (∀ x ∈ l.take i, lowI x) → g 156 = .sl a l.length c z → g 157 = .i .i64 l.length → g 158 = .i .i64 i → Un M (.code (.loop l_ref06_Check_0) :: k) .nrm (frL 166 g) h Q := by
  intro n
  induction n with
  | zero =>
    intro i g hi hn h0 h7 h8
    have : i = l.length := by omega
    subst this
    rw [Un_loop]
    simp only [go_sem, Nat.reduceLT, Nat.reduceLeDiff, Nat.reduceEqDiff, Nat.reduceAdd, Nat.reduceMul, Nat.reduceSub, Int.reduceLT, Int.reduceLE, Int.reduceEq, Int.reduceNe, Int.reduceToNat, Int.reduceAdd, Int.reduceSub, Int.reduceMul, Int.reduceNeg, Int.reduceBEq, Int.reduceBNe, Nat.reduceBEq, l_ref06_Check_0, h0, h7, h8, Int.lt_irrefl]
    rw [List.take_length] at hn
    exact hex hn _
  | succ n ih =>
    intro i g hi hn h0 h7 h8
    have hlt : i < l.length := by omega
    obtain ⟨id, off, vs, ro, ty, rfl, rfl, hid, hv⟩ := hR.lt (i := i) (by simpa using hlt)
    rw [List.getElem_map] at hv
    rw [Un_loop]
    simp only [go_sem, Nat.reduceLT, Nat.reduceLeDiff, Nat.reduceEqDiff, Nat.reduceAdd, Nat.reduceMul, Nat.reduceSub, Int.reduceLT, Int.reduceLE, Int.reduceEq, Int.reduceNe, Int.reduceToNat, Int.reduceAdd, Int.reduceSub, Int.reduceMul, Int.reduceNeg, Int.reduceBEq, Int.reduceBNe, Nat.reduceBEq, l_ref06_Check_0, h0, h7, h8, Int.ofNat_lt, hlt, hid, hv, Pc_to (s_rlow _ _)]
    refine Br_split (fun e => ?_) (fun e => ?_)
    · simp only [go_sem, Nat.reduceLT, Nat.reduceLeDiff, Nat.reduceEqDiff, Nat.reduceAdd, Nat.reduceMul, Nat.reduceSub, Int.reduceLT, Int.reduceLE, Int.reduceEq, Int.reduceNe, Int.reduceToNat, Int.reduceAdd, Int.reduceSub, Int.reduceMul, Int.reduceNeg, Int.reduceBEq, Int.reduceBNe, Nat.reduceBEq]
      simp at e
      exact hret ⟨_, List.getElem_mem hlt, e⟩ _ (by simp only [go_sem, Nat.reduceLT, Nat.reduceLeDiff, Nat.reduceEqDiff, Nat.reduceAdd, Nat.reduceMul, Nat.reduceSub, Int.reduceLT, Int.reduceLE, Int.reduceEq, Int.reduceNe, Int.reduceToNat, Int.reduceAdd, Int.reduceSub, Int.reduceMul, Int.reduceNeg, Int.reduceBEq, Int.reduceBNe, Nat.reduceBEq])
    · simp only [go_sem, Nat.reduceLT, Nat.reduceLeDiff, Nat.reduceEqDiff, Nat.reduceAdd, Nat.reduceMul, Nat.reduceSub, Int.reduceLT, Int.reduceLE, Int.reduceEq, Int.reduceNe, Int.reduceToNat, Int.reduceAdd, Int.reduceSub, Int.reduceMul, Int.reduceNeg, Int.reduceBEq, Int.reduceBNe, Nat.reduceBEq, h8, wrap_next (show i ≤ 4611686018427387904 by omega), Un_again]
      refine ih (i + 1) _ (by omega) ?_ (by simp only [go_sem, Nat.reduceLT, Nat.reduceLeDiff, Nat.reduceEqDiff, Nat.reduceAdd, Nat.reduceMul, Nat.reduceSub, Int.reduceLT, Int.reduceLE, Int.reduceEq, Int.reduceNe, Int.reduceToNat, Int.reduceAdd, Int.reduceSub, Int.reduceMul, Int.reduceNeg, Int.reduceBEq, Int.reduceBNe, Nat.reduceBEq, h0]) (by simp only [go_sem, Nat.reduceLT, Nat.reduceLeDiff, Nat.reduceEqDiff, Nat.reduceAdd, Nat.reduceMul, Nat.reduceSub, Int.reduceLT, Int.reduceLE, Int.reduceEq, Int.reduceNe, Int.reduceToNat, Int.reduceAdd, Int.reduceSub, Int.reduceMul, Int.reduceNeg, Int.reduceBEq, Int.reduceBNe, Nat.reduceBEq, h7]) (by simp only [go_sem, Nat.reduceLT, Nat.reduceLeDiff, Nat.reduceEqDiff, Nat.reduceAdd, Nat.reduceMul, Nat.reduceSub, Int.reduceLT, Int.reduceLE, Int.reduceEq, Int.reduceNe, Int.reduceToNat, Int.reduceAdd, Int.reduceSub, Int.reduceMul, Int.reduceNeg, Int.reduceBEq, Int.reduceBNe, Nat.reduceBEq])
      rw [List.take_succ_eq_append_getElem hlt]
      simp at e
      intro y hy
      rcases List.mem_append.1 hy with hy | hy
      · exact hn y hy
      · simp at hy; rw [hy]; exact e
theorem R1_get {H : Heap} {id : Nat} {l : List V} {ro : Bool} {ty : Option Nat} (hk : H[id]? = some (.cells l ro ty)) : R1 H (some (id, 0)) 1 l :=
  ⟨rfl, l, ro, ty, hk, by simp, fun i v hi => by simpa using hi⟩
end Am
end Go.Proofs.YtjjkjfdojifchaaDoor
