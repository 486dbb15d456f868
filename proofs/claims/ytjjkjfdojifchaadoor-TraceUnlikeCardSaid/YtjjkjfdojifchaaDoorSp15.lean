/-
  WHAT THE FUNCTIONS COME TO, part 15: are two units the same.
  Conditions: none.
-/
import Derived.Test.YtjjkjfdojifchaaDoorSp1
import Derived.Test.YtjjkjfdojifchaaDoorSp3
set_option linter.unusedVariables false
set_option linter.unusedSimpArgs false
namespace Go.Proofs.YtjjkjfdojifchaaDoor
namespace Am
theorem wrap_W {x : Int} (h : W32 x) : IntKind.i64.wrap x = x := by unfold W32 at h; exact wrap_i64 (by omega) (by omega)
theorem same_loop {k : List K} {Q : X → List V → Heap → Prop} {h : Heap} {a a' : Option (Nat × Nat)} {c c' : Option Nat} {z z' B : Nat} {l m : List Int} {w0 w1 w2 w3 w4 w5 w6 : V} (hR : R1 h a z (l.map (.i .u32))) (hX : R1 h a' z' (m.map (.i .i64))) (hL : m.length ≤ 1000000) (hlen : l.length = m.length) (hW : ∀ x ∈ l, W32 x)
    (hB : h[B]? = some (.cells [w0, w1, w2, w3, w4, .sl a l.length c z, w5, w6] false none))
    (hret : l ≠ m → ∀ g', g' 4 = .b false → Un M k .ret (frL 83 g') h Q) (hex : l = m → ∀ g', Un M k (.ex 0) (frL 83 g') h Q) :
    ∀ (n i : Nat) (g : Nat → V), i + n = m.length → l.take i = m.take i → g 2 = .p (some (B, 0)) → g 67 = .sl a' m.length c' z' → g 68 = .i .i64 m.length → g 69 = .i .i64 i → Un M (.code (.loop l_law06_Same_0) :: k) .nrm (frL 83 g) h Q := by
  intro n
  induction n with
  | zero =>
    intro i g hi hn h2 h0 h7 h8
    have : i = m.length := by omega
    subst this
    rw [Un_loop]
    simp only [go_sem, Nat.reduceLT, Nat.reduceLeDiff, Nat.reduceEqDiff, Nat.reduceAdd, Nat.reduceMul, Nat.reduceSub, Int.reduceLT, Int.reduceLE, Int.reduceEq, Int.reduceNe, Int.reduceToNat, Int.reduceAdd, Int.reduceSub, Int.reduceMul, Int.reduceNeg, Int.reduceBEq, Int.reduceBNe, Nat.reduceBEq, l_law06_Same_0, h2, h0, h7, h8, Int.lt_irrefl]
    rw [List.take_length, ← hlen, List.take_length] at hn
    exact hex hn _
  | succ n ih =>
    intro i g hi hn h2 h0 h7 h8
    have hlt : i < m.length := by omega
    have hltl : i < l.length := by omega
    obtain ⟨id, off, vs, ro, ty, rfl, rfl, hid, hv⟩ := hX.lt (i := i) (by simpa using hlt)
    obtain ⟨id', off', vs', ro', ty', rfl, rfl, hid', hv'⟩ := hR.lt (i := i) (by simpa using hltl)
    rw [List.getElem_map] at hv hv'
    rw [Un_loop]
    simp only [go_sem, Nat.reduceLT, Nat.reduceLeDiff, Nat.reduceEqDiff, Nat.reduceAdd, Nat.reduceMul, Nat.reduceSub, Int.reduceLT, Int.reduceLE, Int.reduceEq, Int.reduceNe, Int.reduceToNat, Int.reduceAdd, Int.reduceSub, Int.reduceMul, Int.reduceNeg, Int.reduceBEq, Int.reduceBNe, Nat.reduceBEq, l_law06_Same_0, h2, h0, h7, h8, Int.ofNat_lt, hlt, hltl, hid, hv, hid', hv', hB, wrap_W (hW _ (List.getElem_mem hltl))]
    by_cases e : l[i] = m[i]
    · simp only [go_sem, Nat.reduceLT, Nat.reduceLeDiff, Nat.reduceEqDiff, Nat.reduceAdd, Nat.reduceMul, Nat.reduceSub, Int.reduceLT, Int.reduceLE, Int.reduceEq, Int.reduceNe, Int.reduceToNat, Int.reduceAdd, Int.reduceSub, Int.reduceMul, Int.reduceNeg, Int.reduceBEq, Int.reduceBNe, Nat.reduceBEq, e, h8, wrap_next (show i ≤ 4611686018427387904 by omega), Un_again]
      refine ih (i + 1) _ (by omega) ?_ (by simp only [go_sem, Nat.reduceLT, Nat.reduceLeDiff, Nat.reduceEqDiff, Nat.reduceAdd, Nat.reduceMul, Nat.reduceSub, Int.reduceLT, Int.reduceLE, Int.reduceEq, Int.reduceNe, Int.reduceToNat, Int.reduceAdd, Int.reduceSub, Int.reduceMul, Int.reduceNeg, Int.reduceBEq, Int.reduceBNe, Nat.reduceBEq, h2]) (by simp only [go_sem, Nat.reduceLT, Nat.reduceLeDiff, Nat.reduceEqDiff, Nat.reduceAdd, Nat.reduceMul, Nat.reduceSub, Int.reduceLT, Int.reduceLE, Int.reduceEq, Int.reduceNe, Int.reduceToNat, Int.reduceAdd, Int.reduceSub, Int.reduceMul, Int.reduceNeg, Int.reduceBEq, Int.reduceBNe, Nat.reduceBEq, h0]) (by simp only [go_sem, Nat.reduceLT, Nat.reduceLeDiff, Nat.reduceEqDiff, Nat.reduceAdd, Nat.reduceMul, Nat.reduceSub, Int.reduceLT, Int.reduceLE, Int.reduceEq, Int.reduceNe, Int.reduceToNat, Int.reduceAdd, Int.reduceSub, Int.reduceMul, Int.reduceNeg, Int.reduceBEq, Int.reduceBNe, Nat.reduceBEq, h7]) (by simp only [go_sem, Nat.reduceLT, Nat.reduceLeDiff, Nat.reduceEqDiff, Nat.reduceAdd, Nat.reduceMul, Nat.reduceSub, Int.reduceLT, Int.reduceLE, Int.reduceEq, Int.reduceNe, Int.reduceToNat, Int.reduceAdd, Int.reduceSub, Int.reduceMul, Int.reduceNeg, Int.reduceBEq, Int.reduceBNe, Nat.reduceBEq])
      rw [List.take_succ_eq_append_getElem hlt, List.take_succ_eq_append_getElem hltl, hn, e]
    · simp only [go_sem, Nat.reduceLT, Nat.reduceLeDiff, Nat.reduceEqDiff, Nat.reduceAdd, Nat.reduceMul, Nat.reduceSub, Int.reduceLT, Int.reduceLE, Int.reduceEq, Int.reduceNe, Int.reduceToNat, Int.reduceAdd, Int.reduceSub, Int.reduceMul, Int.reduceNeg, Int.reduceBEq, Int.reduceBNe, Nat.reduceBEq, e]
      refine hret (fun h => e (by subst h; rfl)) _ (by simp only [go_sem, Nat.reduceLT, Nat.reduceLeDiff, Nat.reduceEqDiff, Nat.reduceAdd, Nat.reduceMul, Nat.reduceSub, Int.reduceLT, Int.reduceLE, Int.reduceEq, Int.reduceNe, Int.reduceToNat, Int.reduceAdd, Int.reduceSub, Int.reduceMul, Int.reduceNeg, Int.reduceBEq, Int.reduceBNe, Nat.reduceBEq])
set_option maxHeartbeats 2000000 in
theorem s_Same (u x : U) (h : Heap) (a a' : Option (Nat × Nat)) (c c' : Option Nat) (z z' : Nat) (hR : R1 h a z (u.list.map (.i .u32))) (hX : R1 h a' z' (x.list.map (.i .i64))) (hL : x.list.length ≤ 1000000) (hL' : u.list.length ≤ 1000000)
    (w1 : W32 u.n) (w2 : W32 u.ps) (w3 : W32 u.mr) (w4 : ∀ x ∈ u.list, W32 x) :
    ∃ v h', To M n_law06_Same [uV u a c z, rV x a' c' z'] h v h' ∧ ∃ e os, v = .b e ∧ h' = h ++ os ∧ (e = true ↔ u = x) := by
  refine To_body' rfl F_law06_Same (Nat.le_of_ble_eq_true rfl) ?_
  obtain ⟨kind, sq, n, ps, mr, list, self, data⟩ := u
  obtain ⟨kind', sq', n', ps', mr', list', self', data'⟩ := x
  simp only at hR hX hL hL' w1 w2 w3 w4
  simp only [go_sem, Nat.reduceLT, Nat.reduceLeDiff, Nat.reduceEqDiff, Nat.reduceAdd, Nat.reduceMul, Nat.reduceSub, Int.reduceLT, Int.reduceLE, Int.reduceEq, Int.reduceNe, Int.reduceToNat, Int.reduceAdd, Int.reduceSub, Int.reduceMul, Int.reduceNeg, Int.reduceBEq, Int.reduceBNe, Nat.reduceBEq, b_law06_Same, uV, rV, wrap_W w1, wrap_W w2, wrap_W w3]
  repeat' (first | (refine Gd_splitN (fun e => ?_) (fun e => ?_) <;> simp only [go_sem, Nat.reduceLT, Nat.reduceLeDiff, Nat.reduceEqDiff, Nat.reduceAdd, Nat.reduceMul, Nat.reduceSub, Int.reduceLT, Int.reduceLE, Int.reduceEq, Int.reduceNe, Int.reduceToNat, Int.reduceAdd, Int.reduceSub, Int.reduceMul, Int.reduceNeg, Int.reduceBEq, Int.reduceBNe, Nat.reduceBEq, e, wrap_W w1, wrap_W w2, wrap_W w3]) | (refine Gd_split (fun e => ?_) (fun e => ?_) <;> simp only [go_sem, Nat.reduceLT, Nat.reduceLeDiff, Nat.reduceEqDiff, Nat.reduceAdd, Nat.reduceMul, Nat.reduceSub, Int.reduceLT, Int.reduceLE, Int.reduceEq, Int.reduceNe, Int.reduceToNat, Int.reduceAdd, Int.reduceSub, Int.reduceMul, Int.reduceNeg, Int.reduceBEq, Int.reduceBNe, Nat.reduceBEq, e, wrap_W w1, wrap_W w2, wrap_W w3]) | (refine Br_splitN (fun e => ?_) (fun e => ?_) <;> simp only [go_sem, Nat.reduceLT, Nat.reduceLeDiff, Nat.reduceEqDiff, Nat.reduceAdd, Nat.reduceMul, Nat.reduceSub, Int.reduceLT, Int.reduceLE, Int.reduceEq, Int.reduceNe, Int.reduceToNat, Int.reduceAdd, Int.reduceSub, Int.reduceMul, Int.reduceNeg, Int.reduceBEq, Int.reduceBNe, Nat.reduceBEq, e, wrap_W w1, wrap_W w2, wrap_W w3]) | (refine Br_split (fun e => ?_) (fun e => ?_) <;> simp only [go_sem, Nat.reduceLT, Nat.reduceLeDiff, Nat.reduceEqDiff, Nat.reduceAdd, Nat.reduceMul, Nat.reduceSub, Int.reduceLT, Int.reduceLE, Int.reduceEq, Int.reduceNe, Int.reduceToNat, Int.reduceAdd, Int.reduceSub, Int.reduceMul, Int.reduceNeg, Int.reduceBEq, Int.reduceBNe, Nat.reduceBEq, e, wrap_W w1, wrap_W w2, wrap_W w3]))
  all_goals simp only [decide_eq_true_eq, decide_eq_false_iff_not, Bool.not_eq_true', Bool.not_eq_false', ne_eq, bne_iff_ne, beq_iff_eq, Classical.not_not] at *
  all_goals try (refine ⟨_, rfl, _, _, rfl, rfl, ?_⟩; first | (simp_all; done) | (refine ⟨fun e => (by cases e), fun e => ?_⟩; injection e; simp_all; done))
  all_goals (
    have hll : list.length = list'.length := by omega
    refine same_loop (w0 := .i .i64 kind) (w1 := .i .i64 sq) (w2 := .i .u32 n) (w3 := .i .u32 ps) (w4 := .i .u32 mr) (w5 := .b self) (w6 := .s data) (a := a) (c := c) (z := z) (c' := c') (B := h.length) (l := list) (m := list') (hR.keeps (Keeps.app _ _)) (hX.keeps (Keeps.app _ _)) hL hll w4 ?hB ?h1 ?h2 list'.length 0 _ (by omega) rfl ?h3 ?h4 ?h5 ?h6
    case hB => exact get_new0 _
    case h3 => simp only [go_sem, Nat.reduceLT, Nat.reduceLeDiff, Nat.reduceEqDiff, Nat.reduceAdd, Nat.reduceMul, Nat.reduceSub, Int.reduceLT, Int.reduceLE, Int.reduceEq, Int.reduceNe, Int.reduceToNat, Int.reduceAdd, Int.reduceSub, Int.reduceMul, Int.reduceNeg, Int.reduceBEq, Int.reduceBNe, Nat.reduceBEq]
    case h4 => simp only [go_sem, Nat.reduceLT, Nat.reduceLeDiff, Nat.reduceEqDiff, Nat.reduceAdd, Nat.reduceMul, Nat.reduceSub, Int.reduceLT, Int.reduceLE, Int.reduceEq, Int.reduceNe, Int.reduceToNat, Int.reduceAdd, Int.reduceSub, Int.reduceMul, Int.reduceNeg, Int.reduceBEq, Int.reduceBNe, Nat.reduceBEq]
    case h5 => simp only [go_sem, Nat.reduceLT, Nat.reduceLeDiff, Nat.reduceEqDiff, Nat.reduceAdd, Nat.reduceMul, Nat.reduceSub, Int.reduceLT, Int.reduceLE, Int.reduceEq, Int.reduceNe, Int.reduceToNat, Int.reduceAdd, Int.reduceSub, Int.reduceMul, Int.reduceNeg, Int.reduceBEq, Int.reduceBNe, Nat.reduceBEq]
    case h6 => (first | (simp only [go_sem, Nat.reduceLT, Nat.reduceLeDiff, Nat.reduceEqDiff, Nat.reduceAdd, Nat.reduceMul, Nat.reduceSub, Int.reduceLT, Int.reduceLE, Int.reduceEq, Int.reduceNe, Int.reduceToNat, Int.reduceAdd, Int.reduceSub, Int.reduceMul, Int.reduceNeg, Int.reduceBEq, Int.reduceBNe, Nat.reduceBEq]; done) | (simp only [go_sem, Nat.reduceLT, Nat.reduceLeDiff, Nat.reduceEqDiff, Nat.reduceAdd, Nat.reduceMul, Nat.reduceSub, Int.reduceLT, Int.reduceLE, Int.reduceEq, Int.reduceNe, Int.reduceToNat, Int.reduceAdd, Int.reduceSub, Int.reduceMul, Int.reduceNeg, Int.reduceBEq, Int.reduceBNe, Nat.reduceBEq]; rfl) | rfl)
    case h1 =>
      intro hx g hg
      simp only [go_sem, Nat.reduceLT, Nat.reduceLeDiff, Nat.reduceEqDiff, Nat.reduceAdd, Nat.reduceMul, Nat.reduceSub, Int.reduceLT, Int.reduceLE, Int.reduceEq, Int.reduceNe, Int.reduceToNat, Int.reduceAdd, Int.reduceSub, Int.reduceMul, Int.reduceNeg, Int.reduceBEq, Int.reduceBNe, Nat.reduceBEq, hg]
      refine ⟨_, rfl, _, _, rfl, rfl, ?_⟩
      simp_all
    case h2 =>
      intro hx g
      simp only [go_sem, Nat.reduceLT, Nat.reduceLeDiff, Nat.reduceEqDiff, Nat.reduceAdd, Nat.reduceMul, Nat.reduceSub, Int.reduceLT, Int.reduceLE, Int.reduceEq, Int.reduceNe, Int.reduceToNat, Int.reduceAdd, Int.reduceSub, Int.reduceMul, Int.reduceNeg, Int.reduceBEq, Int.reduceBNe, Nat.reduceBEq]
      refine ⟨_, rfl, _, _, rfl, rfl, ?_⟩
      simp_all)
end Am
end Go.Proofs.YtjjkjfdojifchaaDoor
