/-
  WHAT THE FUNCTIONS COME TO, part 3: which units may be, by the program.
  Conditions: none.
-/
import Derived.Test.YtjjkjfdojifchaaDoorSp1
set_option linter.unusedVariables false
set_option linter.unusedSimpArgs false
namespace Go.Proofs.YtjjkjfdojifchaaDoor
namespace Am
theorem lo_eq {x : Int} (h0 : 0 ≤ x) (h1 : x < 4294967296) : lo x = x % 16777216 := by
  obtain ⟨n, rfl⟩ := Int.eq_ofNat_of_zero_le h0
  have hn : n < 4294967296 := by omega
  have e1 : (BitVec.ofInt 32 (n : Int) &&& BitVec.ofInt 32 16777215).toNat = n % 16777216 := by
    rw [BitVec.toNat_and]
    have a : (BitVec.ofInt 32 (n : Int)).toNat = n := by simp; omega
    have b : (BitVec.ofInt 32 16777215).toNat = 2 ^ 24 - 1 := by decide
    rw [a, b, Nat.and_two_pow_sub_one_eq_mod]
  unfold lo
  rw [show (IntKind.u32.wrap ((BitVec.ofInt 32 (n : Int) &&& BitVec.ofInt 32 16777215).toNat : Int)) = IntKind.u32.wrap ((n % 16777216 : Nat) : Int) by rw [e1], wrap_u32 (by omega) (by omega)]
  omega
/-- A number of 32 bits. -/
def W32 (x : Int) : Prop := 0 ≤ x ∧ x < 4294967296
theorem low_iff {x : Int} (h : W32 x) : x = lo x ↔ lowI x := by
  obtain ⟨h0, h1⟩ := h
  rw [lo_eq h0 h1]
  unfold lowI
  omega
/-- .. as the program's value. -/
def uV (u : U) (a : Option (Nat × Nat)) (c : Option Nat) (z : Nat) : V := .g [.i .i64 u.kind, .i .i64 u.sq, .i .u32 u.n, .i .u32 u.ps, .i .u32 u.mr, .sl a u.list.length c z, .b u.self, .s u.data]
theorem ixf_loop {k : List K} {Q : X → List V → Heap → Prop} {h : Heap} {a : Option (Nat × Nat)} {c : Option Nat} {z : Nat} {l : List Int} (hR : R1 h a z (l.map (.i .u32))) (hL : l.length ≤ 1000000)
    (hret : (∃ x ∈ l, x ≠ lo x) → ∀ (g' : Nat → V) (r : Nat), g' 4 = .i .i64 r → Un M k .ret (frL 19 g') h Q) (hex : (∀ x ∈ l, x = lo x) → ∀ g', Un M k (.ex 0) (frL 19 g') h Q) :
    ∀ (n i : Nat) (g : Nat → V), i + n = l.length → (∀ x ∈ l.take i, x = lo x) → g 0 = .sl a l.length c z → g 1 = .f n_pdu_PDU_Check_1 [] → g 7 = .i .i64 l.length → g 8 = .i .i64 i → Un M (.code (.loop l_slices_IndexFunc_Lseq_Num_seq_Num_0) :: k) .nrm (frL 19 g) h Q := by
  intro n
  induction n with
  | zero =>
    intro i g hi hn h0 h1 h7 h8
    have : i = l.length := by omega
    subst this
    rw [Un_loop]
    simp only [go_sem, Nat.reduceLT, Nat.reduceLeDiff, Nat.reduceEqDiff, Nat.reduceAdd, Nat.reduceMul, Nat.reduceSub, Int.reduceLT, Int.reduceLE, Int.reduceEq, Int.reduceNe, Int.reduceToNat, Int.reduceAdd, Int.reduceSub, Int.reduceMul, Int.reduceNeg, Int.reduceBEq, Int.reduceBNe, Nat.reduceBEq, l_slices_IndexFunc_Lseq_Num_seq_Num_0, h0, h1, h7, h8, Int.lt_irrefl]
    rw [List.take_length] at hn
    exact hex hn _
  | succ n ih =>
    intro i g hi hn h0 h1 h7 h8
    have hlt : i < l.length := by omega
    obtain ⟨id, off, vs, ro, ty, rfl, rfl, hid, hv⟩ := hR.lt (i := i) (by simpa using hlt)
    rw [List.getElem_map] at hv
    rw [Un_loop]
    simp only [go_sem, Nat.reduceLT, Nat.reduceLeDiff, Nat.reduceEqDiff, Nat.reduceAdd, Nat.reduceMul, Nat.reduceSub, Int.reduceLT, Int.reduceLE, Int.reduceEq, Int.reduceNe, Int.reduceToNat, Int.reduceAdd, Int.reduceSub, Int.reduceMul, Int.reduceNeg, Int.reduceBEq, Int.reduceBNe, Nat.reduceBEq, l_slices_IndexFunc_Lseq_Num_seq_Num_0, h0, h1, h7, h8, Int.ofNat_lt, hlt, hid, hv, Pc_to (s_ck1 _ _)]
    refine Br_splitN (fun e => ?_) (fun e => ?_)
    · simp only [go_sem, Nat.reduceLT, Nat.reduceLeDiff, Nat.reduceEqDiff, Nat.reduceAdd, Nat.reduceMul, Nat.reduceSub, Int.reduceLT, Int.reduceLE, Int.reduceEq, Int.reduceNe, Int.reduceToNat, Int.reduceAdd, Int.reduceSub, Int.reduceMul, Int.reduceNeg, Int.reduceBEq, Int.reduceBNe, Nat.reduceBEq]
      simp at e
      exact hret ⟨_, List.getElem_mem hlt, e⟩ _ i (by simp only [go_sem, Nat.reduceLT, Nat.reduceLeDiff, Nat.reduceEqDiff, Nat.reduceAdd, Nat.reduceMul, Nat.reduceSub, Int.reduceLT, Int.reduceLE, Int.reduceEq, Int.reduceNe, Int.reduceToNat, Int.reduceAdd, Int.reduceSub, Int.reduceMul, Int.reduceNeg, Int.reduceBEq, Int.reduceBNe, Nat.reduceBEq])
    · simp only [go_sem, Nat.reduceLT, Nat.reduceLeDiff, Nat.reduceEqDiff, Nat.reduceAdd, Nat.reduceMul, Nat.reduceSub, Int.reduceLT, Int.reduceLE, Int.reduceEq, Int.reduceNe, Int.reduceToNat, Int.reduceAdd, Int.reduceSub, Int.reduceMul, Int.reduceNeg, Int.reduceBEq, Int.reduceBNe, Nat.reduceBEq, h8, wrap_next (show i ≤ 4611686018427387904 by omega), Un_again]
      refine ih (i + 1) _ (by omega) ?_ (by simp only [go_sem, Nat.reduceLT, Nat.reduceLeDiff, Nat.reduceEqDiff, Nat.reduceAdd, Nat.reduceMul, Nat.reduceSub, Int.reduceLT, Int.reduceLE, Int.reduceEq, Int.reduceNe, Int.reduceToNat, Int.reduceAdd, Int.reduceSub, Int.reduceMul, Int.reduceNeg, Int.reduceBEq, Int.reduceBNe, Nat.reduceBEq, h0]) (by simp only [go_sem, Nat.reduceLT, Nat.reduceLeDiff, Nat.reduceEqDiff, Nat.reduceAdd, Nat.reduceMul, Nat.reduceSub, Int.reduceLT, Int.reduceLE, Int.reduceEq, Int.reduceNe, Int.reduceToNat, Int.reduceAdd, Int.reduceSub, Int.reduceMul, Int.reduceNeg, Int.reduceBEq, Int.reduceBNe, Nat.reduceBEq, h1]) (by simp only [go_sem, Nat.reduceLT, Nat.reduceLeDiff, Nat.reduceEqDiff, Nat.reduceAdd, Nat.reduceMul, Nat.reduceSub, Int.reduceLT, Int.reduceLE, Int.reduceEq, Int.reduceNe, Int.reduceToNat, Int.reduceAdd, Int.reduceSub, Int.reduceMul, Int.reduceNeg, Int.reduceBEq, Int.reduceBNe, Nat.reduceBEq, h7]) (by simp only [go_sem, Nat.reduceLT, Nat.reduceLeDiff, Nat.reduceEqDiff, Nat.reduceAdd, Nat.reduceMul, Nat.reduceSub, Int.reduceLT, Int.reduceLE, Int.reduceEq, Int.reduceNe, Int.reduceToNat, Int.reduceAdd, Int.reduceSub, Int.reduceMul, Int.reduceNeg, Int.reduceBEq, Int.reduceBNe, Nat.reduceBEq])
      rw [List.take_succ_eq_append_getElem hlt]
      simp at e
      intro y hy
      rcases List.mem_append.1 hy with hy | hy
      · exact hn y hy
      · simp at hy; rw [hy]; exact e
theorem s_ixf (l : List Int) (h : Heap) (a : Option (Nat × Nat)) (c : Option Nat) (z n : Nat) (hR : R1 h a z (l.map (.i .u32))) (hL : l.length ≤ 1000000) (hn : l.length = n) :
    ∃ v h', To M n_slices_IndexFunc_Lseq_Num_seq_Num [.sl a n c z, .f n_pdu_PDU_Check_1 []] h v h' ∧ h' = h ∧ ∃ r : Int, v = .i .i64 r ∧ (0 ≤ r ↔ ∃ x ∈ l, x ≠ lo x) := by
  subst hn
  refine To_body' rfl F_slices_IndexFunc_Lseq_Num_seq_Num (Nat.le_of_ble_eq_true rfl) ?_
  simp only [go_sem, Nat.reduceLT, Nat.reduceLeDiff, Nat.reduceEqDiff, Nat.reduceAdd, Nat.reduceMul, Nat.reduceSub, Int.reduceLT, Int.reduceLE, Int.reduceEq, Int.reduceNe, Int.reduceToNat, Int.reduceAdd, Int.reduceSub, Int.reduceMul, Int.reduceNeg, Int.reduceBEq, Int.reduceBNe, Nat.reduceBEq, b_slices_IndexFunc_Lseq_Num_seq_Num]
  refine ixf_loop (c := c) hR hL ?h1 ?h2 l.length 0 _ (by omega) (by simp) ?h3 ?h4 ?h5 ?h6
  case h3 => simp only [go_sem, Nat.reduceLT, Nat.reduceLeDiff, Nat.reduceEqDiff, Nat.reduceAdd, Nat.reduceMul, Nat.reduceSub, Int.reduceLT, Int.reduceLE, Int.reduceEq, Int.reduceNe, Int.reduceToNat, Int.reduceAdd, Int.reduceSub, Int.reduceMul, Int.reduceNeg, Int.reduceBEq, Int.reduceBNe, Nat.reduceBEq]
  case h4 => simp only [go_sem, Nat.reduceLT, Nat.reduceLeDiff, Nat.reduceEqDiff, Nat.reduceAdd, Nat.reduceMul, Nat.reduceSub, Int.reduceLT, Int.reduceLE, Int.reduceEq, Int.reduceNe, Int.reduceToNat, Int.reduceAdd, Int.reduceSub, Int.reduceMul, Int.reduceNeg, Int.reduceBEq, Int.reduceBNe, Nat.reduceBEq]
  case h5 => simp only [go_sem, Nat.reduceLT, Nat.reduceLeDiff, Nat.reduceEqDiff, Nat.reduceAdd, Nat.reduceMul, Nat.reduceSub, Int.reduceLT, Int.reduceLE, Int.reduceEq, Int.reduceNe, Int.reduceToNat, Int.reduceAdd, Int.reduceSub, Int.reduceMul, Int.reduceNeg, Int.reduceBEq, Int.reduceBNe, Nat.reduceBEq]
  case h6 => (first | (simp only [go_sem, Nat.reduceLT, Nat.reduceLeDiff, Nat.reduceEqDiff, Nat.reduceAdd, Nat.reduceMul, Nat.reduceSub, Int.reduceLT, Int.reduceLE, Int.reduceEq, Int.reduceNe, Int.reduceToNat, Int.reduceAdd, Int.reduceSub, Int.reduceMul, Int.reduceNeg, Int.reduceBEq, Int.reduceBNe, Nat.reduceBEq]; done) | (simp only [go_sem, Nat.reduceLT, Nat.reduceLeDiff, Nat.reduceEqDiff, Nat.reduceAdd, Nat.reduceMul, Nat.reduceSub, Int.reduceLT, Int.reduceLE, Int.reduceEq, Int.reduceNe, Int.reduceToNat, Int.reduceAdd, Int.reduceSub, Int.reduceMul, Int.reduceNeg, Int.reduceBEq, Int.reduceBNe, Nat.reduceBEq]; rfl) | rfl)
  case h1 =>
    intro hx g r hg
    simp only [go_sem, Nat.reduceLT, Nat.reduceLeDiff, Nat.reduceEqDiff, Nat.reduceAdd, Nat.reduceMul, Nat.reduceSub, Int.reduceLT, Int.reduceLE, Int.reduceEq, Int.reduceNe, Int.reduceToNat, Int.reduceAdd, Int.reduceSub, Int.reduceMul, Int.reduceNeg, Int.reduceBEq, Int.reduceBNe, Nat.reduceBEq, hg]
    exact ⟨_, rfl, _, rfl, by simp [hx]⟩
  case h2 =>
    intro hx g
    simp only [go_sem, Nat.reduceLT, Nat.reduceLeDiff, Nat.reduceEqDiff, Nat.reduceAdd, Nat.reduceMul, Nat.reduceSub, Int.reduceLT, Int.reduceLE, Int.reduceEq, Int.reduceNe, Int.reduceToNat, Int.reduceAdd, Int.reduceSub, Int.reduceMul, Int.reduceNeg, Int.reduceBEq, Int.reduceBNe, Nat.reduceBEq]
    refine ⟨_, rfl, _, rfl, ?_⟩
    constructor
    · intro c; exact absurd c (by decide)
    · rintro ⟨x, h1, h2⟩; exact absurd (hx x h1) h2
theorem s_ctf (l : List Int) (h : Heap) (a : Option (Nat × Nat)) (c : Option Nat) (z n : Nat) (hR : R1 h a z (l.map (.i .u32))) (hL : l.length ≤ 1000000) (hn : l.length = n) :
    To M n_slices_ContainsFunc_Lseq_Num_seq_Num [.sl a n c z, .f n_pdu_PDU_Check_1 []] h (.b (decide (∃ x ∈ l, x ≠ lo x))) h := by
  obtain ⟨v, h', ht, rfl, r, rfl, hr⟩ := s_ixf l h a c z n hR hL hn
  refine To_body rfl F_slices_ContainsFunc_Lseq_Num_seq_Num (Nat.le_of_ble_eq_true rfl) ?_
  simp only [go_sem, Nat.reduceLT, Nat.reduceLeDiff, Nat.reduceEqDiff, Nat.reduceAdd, Nat.reduceMul, Nat.reduceSub, Int.reduceLT, Int.reduceLE, Int.reduceEq, Int.reduceNe, Int.reduceToNat, Int.reduceAdd, Int.reduceSub, Int.reduceMul, Int.reduceNeg, Int.reduceBEq, Int.reduceBNe, Nat.reduceBEq, b_slices_ContainsFunc_Lseq_Num_seq_Num]
  refine Pc_of ht ?_
  simp only [go_sem, Nat.reduceLT, Nat.reduceLeDiff, Nat.reduceEqDiff, Nat.reduceAdd, Nat.reduceMul, Nat.reduceSub, Int.reduceLT, Int.reduceLE, Int.reduceEq, Int.reduceNe, Int.reduceToNat, Int.reduceAdd, Int.reduceSub, Int.reduceMul, Int.reduceNeg, Int.reduceBEq, Int.reduceBNe, Nat.reduceBEq]
  rw [decide_eq_decide]
  exact hr
end Am
end Go.Proofs.YtjjkjfdojifchaaDoor
