/-
  WHAT THE FUNCTIONS COME TO, part 5: numbers, texts and lists cut; a unit as the program's.
  Conditions: none.
-/
import Derived.Test.YtjjkjfdojifchaaDoorSp3
set_option linter.unusedVariables false
set_option linter.unusedSimpArgs false
namespace Go.Proofs.YtjjkjfdojifchaaDoor
namespace Am
theorem s_Cut (l : List UInt8) (n : Int) (hn : 0 ≤ n) (h : Heap) : To M n_law02_Cut [.s l, .i .i64 n] h (.s (l.take n.toNat)) h := by
  refine To_body rfl F_law02_Cut (Nat.le_of_ble_eq_true rfl) ?_
  simp only [go_sem, Nat.reduceLT, Nat.reduceLeDiff, Nat.reduceEqDiff, Nat.reduceAdd, Nat.reduceMul, Nat.reduceSub, Int.reduceLT, Int.reduceLE, Int.reduceEq, Int.reduceNe, Int.reduceToNat, Int.reduceAdd, Int.reduceSub, Int.reduceMul, Int.reduceNeg, Int.reduceBEq, Int.reduceBNe, Nat.reduceBEq, b_law02_Cut]
  refine Br_split (fun e => ?_) (fun e => ?_)
  · have e' := of_decide_eq_true e
    simp only [go_sem, Nat.reduceLT, Nat.reduceLeDiff, Nat.reduceEqDiff, Nat.reduceAdd, Nat.reduceMul, Nat.reduceSub, Int.reduceLT, Int.reduceLE, Int.reduceEq, Int.reduceNe, Int.reduceToNat, Int.reduceAdd, Int.reduceSub, Int.reduceMul, Int.reduceNeg, Int.reduceBEq, Int.reduceBNe, Nat.reduceBEq, hn, show n.toNat ≤ l.length by omega]
  · have e' := of_decide_eq_false e
    simp only [go_sem, Nat.reduceLT, Nat.reduceLeDiff, Nat.reduceEqDiff, Nat.reduceAdd, Nat.reduceMul, Nat.reduceSub, Int.reduceLT, Int.reduceLE, Int.reduceEq, Int.reduceNe, Int.reduceToNat, Int.reduceAdd, Int.reduceSub, Int.reduceMul, Int.reduceNeg, Int.reduceBEq, Int.reduceBNe, Nat.reduceBEq]
    rw [List.take_of_length_le (by omega)]
/-- From 0 on, of 32 bits. -/
def cl (x : Int) : Int := if (if (4294967295 : Int) < x then 4294967295 else x) > 0 then (if (4294967295 : Int) < x then 4294967295 else x) else 0
theorem cl_W (x : Int) : W32 (cl x) := by unfold cl W32; split <;> split <;> omega
theorem cl_id {x : Int} (h : W32 x) : cl x = x := by unfold W32 at h; unfold cl; split <;> split at * <;> omega
theorem s_Few1 (x : Int) (h : Heap) : To M n_law06_Few_1 [.i .i64 x] h (.i .i64 (cl x)) h := by
  refine To_body rfl F_law06_Few_1 (Nat.le_of_ble_eq_true rfl) ?_
  simp only [go_sem, Nat.reduceLT, Nat.reduceLeDiff, Nat.reduceEqDiff, Nat.reduceAdd, Nat.reduceMul, Nat.reduceSub, Int.reduceLT, Int.reduceLE, Int.reduceEq, Int.reduceNe, Int.reduceToNat, Int.reduceAdd, Int.reduceSub, Int.reduceMul, Int.reduceNeg, Int.reduceBEq, Int.reduceBNe, Nat.reduceBEq, b_law06_Few_1]
  rfl
theorem s_num (x : Int) (h : Heap) : To M n_law06_num [.i .i64 x] h (.i .u32 (cl x)) h := by
  refine To_body rfl F_law06_num (Nat.le_of_ble_eq_true rfl) ?_
  simp only [go_sem, Nat.reduceLT, Nat.reduceLeDiff, Nat.reduceEqDiff, Nat.reduceAdd, Nat.reduceMul, Nat.reduceSub, Int.reduceLT, Int.reduceLE, Int.reduceEq, Int.reduceNe, Int.reduceToNat, Int.reduceAdd, Int.reduceSub, Int.reduceMul, Int.reduceNeg, Int.reduceBEq, Int.reduceBNe, Nat.reduceBEq, b_law06_num]
  have := cl_W x
  exact wrap_u32 this.1 (by have := this.2; omega)
/-- Cut to what the laws look at. -/
def fewU (u : U) : U := { u with n := cl u.n, ps := cl u.ps, mr := cl u.mr, list := (u.list.take 140).map cl, data := u.data.take 210 }
theorem few_loop {k : List K} {Q : X → List V → Heap → Prop} {H0 : Heap} {a : Option (Nat × Nat)} {c : Option Nat} {z P : Nat} {list : List Int} {vs : List V} {ty : Option Nat} {v2 : V} (hP : H0[P]? = some (.cells vs false ty)) (h5 : vs[5]? = some (.sl a list.length c z)) (hR : R1 H0 a z (list.map (.i .i64)))
    (hex : ∀ g' H x, Keeps H0 H → g' 1 = .p (some (P, 0)) → g' 2 = v2 → g' 4 = x → SB H x (((list.take 140).map cl).map (.i .i64)) → Off H0 x → Un M k (.ex 0) (frL 49 g') H Q) :
    ∀ (n i : Nat) (g : Nat → V) (H : Heap) (x : V), i + n = min list.length 140 → g 1 = .p (some (P, 0)) → g 2 = v2 → g 3 = .f n_law06_Few_1 [] → g 4 = x → g 5 = .i .i64 i → Keeps H0 H → SB H x (((list.take i).map cl).map (.i .i64)) → Off H0 x →
      Un M (.code (.loop l_law06_Few_0) :: k) .nrm (frL 49 g) H Q := by
  intro n
  induction n with
  | zero =>
    intro i g H x hi h1 h2 h3 h4 h5' hk hb ho
    have hPH := hk.2 _ _ hP
    rw [Un_loop]
    have e1 : (list.take i).map cl = (list.take 140).map cl := by
      by_cases hl : list.length ≤ 140
      · rw [List.take_of_length_le (by omega), List.take_of_length_le hl]
      · rw [show i = 140 by omega]
    rw [e1] at hb
    by_cases hlt : i < list.length
    · simp only [go_sem, Nat.reduceLT, Nat.reduceLeDiff, Nat.reduceEqDiff, Nat.reduceAdd, Nat.reduceMul, Nat.reduceSub, Int.reduceLT, Int.reduceLE, Int.reduceEq, Int.reduceNe, Int.reduceToNat, Int.reduceAdd, Int.reduceSub, Int.reduceMul, Int.reduceNeg, Int.reduceBEq, Int.reduceBNe, Nat.reduceBEq, l_law06_Few_0, h1, h2, h3, h4, h5', hPH, h5, Int.ofNat_lt, hlt, show ¬ (i : Int) < 140 by omega]
      exact hex _ H x hk (by simp only [go_sem, Nat.reduceLT, Nat.reduceLeDiff, Nat.reduceEqDiff, Nat.reduceAdd, Nat.reduceMul, Nat.reduceSub, Int.reduceLT, Int.reduceLE, Int.reduceEq, Int.reduceNe, Int.reduceToNat, Int.reduceAdd, Int.reduceSub, Int.reduceMul, Int.reduceNeg, Int.reduceBEq, Int.reduceBNe, Nat.reduceBEq, h1]) (by simp only [go_sem, Nat.reduceLT, Nat.reduceLeDiff, Nat.reduceEqDiff, Nat.reduceAdd, Nat.reduceMul, Nat.reduceSub, Int.reduceLT, Int.reduceLE, Int.reduceEq, Int.reduceNe, Int.reduceToNat, Int.reduceAdd, Int.reduceSub, Int.reduceMul, Int.reduceNeg, Int.reduceBEq, Int.reduceBNe, Nat.reduceBEq, h2]) (by simp only [go_sem, Nat.reduceLT, Nat.reduceLeDiff, Nat.reduceEqDiff, Nat.reduceAdd, Nat.reduceMul, Nat.reduceSub, Int.reduceLT, Int.reduceLE, Int.reduceEq, Int.reduceNe, Int.reduceToNat, Int.reduceAdd, Int.reduceSub, Int.reduceMul, Int.reduceNeg, Int.reduceBEq, Int.reduceBNe, Nat.reduceBEq, h4]) hb ho
    · simp only [go_sem, Nat.reduceLT, Nat.reduceLeDiff, Nat.reduceEqDiff, Nat.reduceAdd, Nat.reduceMul, Nat.reduceSub, Int.reduceLT, Int.reduceLE, Int.reduceEq, Int.reduceNe, Int.reduceToNat, Int.reduceAdd, Int.reduceSub, Int.reduceMul, Int.reduceNeg, Int.reduceBEq, Int.reduceBNe, Nat.reduceBEq, l_law06_Few_0, h1, h2, h3, h4, h5', hPH, h5, Int.ofNat_lt, hlt]
      exact hex _ H x hk (by simp only [go_sem, Nat.reduceLT, Nat.reduceLeDiff, Nat.reduceEqDiff, Nat.reduceAdd, Nat.reduceMul, Nat.reduceSub, Int.reduceLT, Int.reduceLE, Int.reduceEq, Int.reduceNe, Int.reduceToNat, Int.reduceAdd, Int.reduceSub, Int.reduceMul, Int.reduceNeg, Int.reduceBEq, Int.reduceBNe, Nat.reduceBEq, h1]) (by simp only [go_sem, Nat.reduceLT, Nat.reduceLeDiff, Nat.reduceEqDiff, Nat.reduceAdd, Nat.reduceMul, Nat.reduceSub, Int.reduceLT, Int.reduceLE, Int.reduceEq, Int.reduceNe, Int.reduceToNat, Int.reduceAdd, Int.reduceSub, Int.reduceMul, Int.reduceNeg, Int.reduceBEq, Int.reduceBNe, Nat.reduceBEq, h2]) (by simp only [go_sem, Nat.reduceLT, Nat.reduceLeDiff, Nat.reduceEqDiff, Nat.reduceAdd, Nat.reduceMul, Nat.reduceSub, Int.reduceLT, Int.reduceLE, Int.reduceEq, Int.reduceNe, Int.reduceToNat, Int.reduceAdd, Int.reduceSub, Int.reduceMul, Int.reduceNeg, Int.reduceBEq, Int.reduceBNe, Nat.reduceBEq, h4]) hb ho
  | succ n ih =>
    intro i g H x hi h1 h2 h3 h4 h5' hk hb ho
    have hPH := hk.2 _ _ hP
    have hlt : i < list.length := by omega
    obtain ⟨id, off, us, ro, ty, rfl, rfl, hid, hv⟩ := (hR.keeps hk).lt (i := i) (by simpa using hlt)
    rw [List.getElem_map] at hv
    obtain ⟨H', he, hb', hlen, hkeep⟩ := app1 hb (.i .i64 (cl list[i])) 8 (by simp only [List.length_map, List.length_take]; omega) (by simp only [List.length_map, List.length_take]; omega)
    rw [Un_loop]
    simp only [go_sem, Nat.reduceLT, Nat.reduceLeDiff, Nat.reduceEqDiff, Nat.reduceAdd, Nat.reduceMul, Nat.reduceSub, Int.reduceLT, Int.reduceLE, Int.reduceEq, Int.reduceNe, Int.reduceToNat, Int.reduceAdd, Int.reduceSub, Int.reduceMul, Int.reduceNeg, Int.reduceBEq, Int.reduceBNe, Nat.reduceBEq, l_law06_Few_0, h1, h2, h3, h4, h5', hPH, h5, Int.ofNat_lt, hlt, show (i : Int) < 140 by omega, hid, hv, Pc_to (s_Few1 _ _), he, wrap_next (show i ≤ 4611686018427387904 by omega), Un_again]
    refine ih (i + 1) _ H' _ (by omega) (by simp only [go_sem, Nat.reduceLT, Nat.reduceLeDiff, Nat.reduceEqDiff, Nat.reduceAdd, Nat.reduceMul, Nat.reduceSub, Int.reduceLT, Int.reduceLE, Int.reduceEq, Int.reduceNe, Int.reduceToNat, Int.reduceAdd, Int.reduceSub, Int.reduceMul, Int.reduceNeg, Int.reduceBEq, Int.reduceBNe, Nat.reduceBEq, h1]) (by simp only [go_sem, Nat.reduceLT, Nat.reduceLeDiff, Nat.reduceEqDiff, Nat.reduceAdd, Nat.reduceMul, Nat.reduceSub, Int.reduceLT, Int.reduceLE, Int.reduceEq, Int.reduceNe, Int.reduceToNat, Int.reduceAdd, Int.reduceSub, Int.reduceMul, Int.reduceNeg, Int.reduceBEq, Int.reduceBNe, Nat.reduceBEq, h2]) (by simp only [go_sem, Nat.reduceLT, Nat.reduceLeDiff, Nat.reduceEqDiff, Nat.reduceAdd, Nat.reduceMul, Nat.reduceSub, Int.reduceLT, Int.reduceLE, Int.reduceEq, Int.reduceNe, Int.reduceToNat, Int.reduceAdd, Int.reduceSub, Int.reduceMul, Int.reduceNeg, Int.reduceBEq, Int.reduceBNe, Nat.reduceBEq, h3]) (by (first | (simp only [go_sem, Nat.reduceLT, Nat.reduceLeDiff, Nat.reduceEqDiff, Nat.reduceAdd, Nat.reduceMul, Nat.reduceSub, Int.reduceLT, Int.reduceLE, Int.reduceEq, Int.reduceNe, Int.reduceToNat, Int.reduceAdd, Int.reduceSub, Int.reduceMul, Int.reduceNeg, Int.reduceBEq, Int.reduceBNe, Nat.reduceBEq]; done) | (simp only [go_sem, Nat.reduceLT, Nat.reduceLeDiff, Nat.reduceEqDiff, Nat.reduceAdd, Nat.reduceMul, Nat.reduceSub, Int.reduceLT, Int.reduceLE, Int.reduceEq, Int.reduceNe, Int.reduceToNat, Int.reduceAdd, Int.reduceSub, Int.reduceMul, Int.reduceNeg, Int.reduceBEq, Int.reduceBNe, Nat.reduceBEq]; rfl) | rfl)) (by (first | (simp only [go_sem, Nat.reduceLT, Nat.reduceLeDiff, Nat.reduceEqDiff, Nat.reduceAdd, Nat.reduceMul, Nat.reduceSub, Int.reduceLT, Int.reduceLE, Int.reduceEq, Int.reduceNe, Int.reduceToNat, Int.reduceAdd, Int.reduceSub, Int.reduceMul, Int.reduceNeg, Int.reduceBEq, Int.reduceBNe, Nat.reduceBEq]; done) | (simp only [go_sem, Nat.reduceLT, Nat.reduceLeDiff, Nat.reduceEqDiff, Nat.reduceAdd, Nat.reduceMul, Nat.reduceSub, Int.reduceLT, Int.reduceLE, Int.reduceEq, Int.reduceNe, Int.reduceToNat, Int.reduceAdd, Int.reduceSub, Int.reduceMul, Int.reduceNeg, Int.reduceBEq, Int.reduceBNe, Nat.reduceBEq]; rfl) | rfl)) (ho.keeps hk (by omega) hkeep) ?_ (Off.new hk _ _ _ _)
    have e2 : ((list.take (i + 1)).map cl).map (V.i .i64) = ((list.take i).map cl).map (V.i .i64) ++ [.i .i64 (cl list[i])] := by
      rw [List.take_succ_eq_append_getElem hlt, List.map_append, List.map_append]; rfl
    rw [e2]
    exact hb'
theorem s_Few (u : U) (h : Heap) (a : Option (Nat × Nat)) (c : Option Nat) (z : Nat) (hR : R1 h a z (u.list.map (.i .i64))) :
    ∃ v h', To M n_law06_Few [rV u a c z] h v h' ∧ ∃ a' c' z', v = rV (fewU u) a' c' z' ∧ Keeps h h' ∧ R1 h' a' z' ((fewU u).list.map (.i .i64)) ∧ ∀ j off, a' = some (j, off) → h.length ≤ j := by
  refine To_body' rfl F_law06_Few (Nat.le_of_ble_eq_true rfl) ?_
  obtain ⟨kind, sq, n, ps, mr, list, self, data⟩ := u
  simp only at hR
  simp only [go_sem, Nat.reduceLT, Nat.reduceLeDiff, Nat.reduceEqDiff, Nat.reduceAdd, Nat.reduceMul, Nat.reduceSub, Int.reduceLT, Int.reduceLE, Int.reduceEq, Int.reduceNe, Int.reduceToNat, Int.reduceAdd, Int.reduceSub, Int.reduceMul, Int.reduceNeg, Int.reduceBEq, Int.reduceBNe, Nat.reduceBEq, b_law06_Few, rV, Pc_to (s_Few1 _ _), Pc_to (s_Cut _ 210 (by decide) _)]
  refine few_loop (c := c) (P := h.length) (v2 := .p (some (h.length + 1, 0))) (by (first | (simp only [go_sem, Nat.reduceLT, Nat.reduceLeDiff, Nat.reduceEqDiff, Nat.reduceAdd, Nat.reduceMul, Nat.reduceSub, Int.reduceLT, Int.reduceLE, Int.reduceEq, Int.reduceNe, Int.reduceToNat, Int.reduceAdd, Int.reduceSub, Int.reduceMul, Int.reduceNeg, Int.reduceBEq, Int.reduceBNe, Nat.reduceBEq]; done) | (simp only [go_sem, Nat.reduceLT, Nat.reduceLeDiff, Nat.reduceEqDiff, Nat.reduceAdd, Nat.reduceMul, Nat.reduceSub, Int.reduceLT, Int.reduceLE, Int.reduceEq, Int.reduceNe, Int.reduceToNat, Int.reduceAdd, Int.reduceSub, Int.reduceMul, Int.reduceNeg, Int.reduceBEq, Int.reduceBNe, Nat.reduceBEq]; rfl) | rfl)) (by (first | (simp only [go_sem, Nat.reduceLT, Nat.reduceLeDiff, Nat.reduceEqDiff, Nat.reduceAdd, Nat.reduceMul, Nat.reduceSub, Int.reduceLT, Int.reduceLE, Int.reduceEq, Int.reduceNe, Int.reduceToNat, Int.reduceAdd, Int.reduceSub, Int.reduceMul, Int.reduceNeg, Int.reduceBEq, Int.reduceBNe, Nat.reduceBEq]; done) | (simp only [go_sem, Nat.reduceLT, Nat.reduceLeDiff, Nat.reduceEqDiff, Nat.reduceAdd, Nat.reduceMul, Nat.reduceSub, Int.reduceLT, Int.reduceLE, Int.reduceEq, Int.reduceNe, Int.reduceToNat, Int.reduceAdd, Int.reduceSub, Int.reduceMul, Int.reduceNeg, Int.reduceBEq, Int.reduceBNe, Nat.reduceBEq]; rfl) | rfl)) (hR.keeps (Keeps.app _ _)) ?_ (min list.length 140) 0 _ _ (.sl none 0 (some 0) 0) (by omega) ?_ ?_ ?_ ?_ ?_ (Keeps.refl _) ?_ ?_
  · intro g' H x hk h1 h2 h4 hb ho
    have hP := hk.2 h.length _ (by (first | (simp only [go_sem, Nat.reduceLT, Nat.reduceLeDiff, Nat.reduceEqDiff, Nat.reduceAdd, Nat.reduceMul, Nat.reduceSub, Int.reduceLT, Int.reduceLE, Int.reduceEq, Int.reduceNe, Int.reduceToNat, Int.reduceAdd, Int.reduceSub, Int.reduceMul, Int.reduceNeg, Int.reduceBEq, Int.reduceBNe, Nat.reduceBEq]; done) | (simp only [go_sem, Nat.reduceLT, Nat.reduceLeDiff, Nat.reduceEqDiff, Nat.reduceAdd, Nat.reduceMul, Nat.reduceSub, Int.reduceLT, Int.reduceLE, Int.reduceEq, Int.reduceNe, Int.reduceToNat, Int.reduceAdd, Int.reduceSub, Int.reduceMul, Int.reduceNeg, Int.reduceBEq, Int.reduceBNe, Nat.reduceBEq]; rfl) | rfl))
    have hP2 := hk.2 (h.length + 1) _ (by (first | (simp only [go_sem, Nat.reduceLT, Nat.reduceLeDiff, Nat.reduceEqDiff, Nat.reduceAdd, Nat.reduceMul, Nat.reduceSub, Int.reduceLT, Int.reduceLE, Int.reduceEq, Int.reduceNe, Int.reduceToNat, Int.reduceAdd, Int.reduceSub, Int.reduceMul, Int.reduceNeg, Int.reduceBEq, Int.reduceBNe, Nat.reduceBEq]; done) | (simp only [go_sem, Nat.reduceLT, Nat.reduceLeDiff, Nat.reduceEqDiff, Nat.reduceAdd, Nat.reduceMul, Nat.reduceSub, Int.reduceLT, Int.reduceLE, Int.reduceEq, Int.reduceNe, Int.reduceToNat, Int.reduceAdd, Int.reduceSub, Int.reduceMul, Int.reduceNeg, Int.reduceBEq, Int.reduceBNe, Nat.reduceBEq]; rfl) | rfl))
    obtain ⟨a', c', z', rfl, hR'⟩ := hb.row
    simp only [go_sem, Nat.reduceLT, Nat.reduceLeDiff, Nat.reduceEqDiff, Nat.reduceAdd, Nat.reduceMul, Nat.reduceSub, Int.reduceLT, Int.reduceLE, Int.reduceEq, Int.reduceNe, Int.reduceToNat, Int.reduceAdd, Int.reduceSub, Int.reduceMul, Int.reduceNeg, Int.reduceBEq, Int.reduceBNe, Nat.reduceBEq, h1, h2, h4, hP, hP2]
    refine ⟨_, rfl, a', c', z', ?_, ?_, ?_, fun j off e => (by have := ho j ⟨off, _, _, _, by rw [e]⟩; simp at this; omega)⟩
    · simp [fewU]
    · exact (((Keeps.app h _).trans hk).set (Nat.le_refl _) _).set (by omega) _
    · exact (hR'.set (ho.ne (by simp)) _).set (ho.ne (by simp)) _
  · (first | (simp only [go_sem, Nat.reduceLT, Nat.reduceLeDiff, Nat.reduceEqDiff, Nat.reduceAdd, Nat.reduceMul, Nat.reduceSub, Int.reduceLT, Int.reduceLE, Int.reduceEq, Int.reduceNe, Int.reduceToNat, Int.reduceAdd, Int.reduceSub, Int.reduceMul, Int.reduceNeg, Int.reduceBEq, Int.reduceBNe, Nat.reduceBEq]; done) | (simp only [go_sem, Nat.reduceLT, Nat.reduceLeDiff, Nat.reduceEqDiff, Nat.reduceAdd, Nat.reduceMul, Nat.reduceSub, Int.reduceLT, Int.reduceLE, Int.reduceEq, Int.reduceNe, Int.reduceToNat, Int.reduceAdd, Int.reduceSub, Int.reduceMul, Int.reduceNeg, Int.reduceBEq, Int.reduceBNe, Nat.reduceBEq]; rfl) | rfl)
  · (first | (simp only [go_sem, Nat.reduceLT, Nat.reduceLeDiff, Nat.reduceEqDiff, Nat.reduceAdd, Nat.reduceMul, Nat.reduceSub, Int.reduceLT, Int.reduceLE, Int.reduceEq, Int.reduceNe, Int.reduceToNat, Int.reduceAdd, Int.reduceSub, Int.reduceMul, Int.reduceNeg, Int.reduceBEq, Int.reduceBNe, Nat.reduceBEq]; done) | (simp only [go_sem, Nat.reduceLT, Nat.reduceLeDiff, Nat.reduceEqDiff, Nat.reduceAdd, Nat.reduceMul, Nat.reduceSub, Int.reduceLT, Int.reduceLE, Int.reduceEq, Int.reduceNe, Int.reduceToNat, Int.reduceAdd, Int.reduceSub, Int.reduceMul, Int.reduceNeg, Int.reduceBEq, Int.reduceBNe, Nat.reduceBEq]; rfl) | rfl)
  · (first | (simp only [go_sem, Nat.reduceLT, Nat.reduceLeDiff, Nat.reduceEqDiff, Nat.reduceAdd, Nat.reduceMul, Nat.reduceSub, Int.reduceLT, Int.reduceLE, Int.reduceEq, Int.reduceNe, Int.reduceToNat, Int.reduceAdd, Int.reduceSub, Int.reduceMul, Int.reduceNeg, Int.reduceBEq, Int.reduceBNe, Nat.reduceBEq]; done) | (simp only [go_sem, Nat.reduceLT, Nat.reduceLeDiff, Nat.reduceEqDiff, Nat.reduceAdd, Nat.reduceMul, Nat.reduceSub, Int.reduceLT, Int.reduceLE, Int.reduceEq, Int.reduceNe, Int.reduceToNat, Int.reduceAdd, Int.reduceSub, Int.reduceMul, Int.reduceNeg, Int.reduceBEq, Int.reduceBNe, Nat.reduceBEq]; rfl) | rfl)
  · (first | (simp only [go_sem, Nat.reduceLT, Nat.reduceLeDiff, Nat.reduceEqDiff, Nat.reduceAdd, Nat.reduceMul, Nat.reduceSub, Int.reduceLT, Int.reduceLE, Int.reduceEq, Int.reduceNe, Int.reduceToNat, Int.reduceAdd, Int.reduceSub, Int.reduceMul, Int.reduceNeg, Int.reduceBEq, Int.reduceBNe, Nat.reduceBEq]; done) | (simp only [go_sem, Nat.reduceLT, Nat.reduceLeDiff, Nat.reduceEqDiff, Nat.reduceAdd, Nat.reduceMul, Nat.reduceSub, Int.reduceLT, Int.reduceLE, Int.reduceEq, Int.reduceNe, Int.reduceToNat, Int.reduceAdd, Int.reduceSub, Int.reduceMul, Int.reduceNeg, Int.reduceBEq, Int.reduceBNe, Nat.reduceBEq]; rfl) | rfl)
  · (first | (simp only [go_sem, Nat.reduceLT, Nat.reduceLeDiff, Nat.reduceEqDiff, Nat.reduceAdd, Nat.reduceMul, Nat.reduceSub, Int.reduceLT, Int.reduceLE, Int.reduceEq, Int.reduceNe, Int.reduceToNat, Int.reduceAdd, Int.reduceSub, Int.reduceMul, Int.reduceNeg, Int.reduceBEq, Int.reduceBNe, Nat.reduceBEq]; done) | (simp only [go_sem, Nat.reduceLT, Nat.reduceLeDiff, Nat.reduceEqDiff, Nat.reduceAdd, Nat.reduceMul, Nat.reduceSub, Int.reduceLT, Int.reduceLE, Int.reduceEq, Int.reduceNe, Int.reduceToNat, Int.reduceAdd, Int.reduceSub, Int.reduceMul, Int.reduceNeg, Int.reduceBEq, Int.reduceBNe, Nat.reduceBEq]; rfl) | rfl)
  · exact SB.nil _
  · exact Off.nil _ _ _ _
theorem own_loop {k : List K} {Q : X → List V → Heap → Prop} {h : Heap} {a : Option (Nat × Nat)} {c : Option Nat} {z : Nat} {list : List Int} {v0 v1 v3 v4 v5 v6 v7 : V} {ob : Obj} {ty : Option Nat} (hR : R1 h a z (list.map (.i .i64))) (hL : list.length ≤ 1000000)
    (hex : ∀ g' H x, Keeps h H → g' 2 = .p (some (h.length + 1, 0)) → g' 3 = .p (some (h.length + 2, 0)) → H[h.length + 1]? = some ob → H[h.length + 2]? = some (.cells [v0, v1, v3, v4, v5, x, v6, v7] false ty) → SB H x ((list.map cl).map (.i .u32)) → (∀ j, x.at j → h.length + 3 ≤ j) → Un M k (.ex 0) (frL 40 g') H Q) :
    ∀ (n i : Nat) (g : Nat → V) (H : Heap) (x : V), i + n = list.length → g 2 = .p (some (h.length + 1, 0)) → g 3 = .p (some (h.length + 2, 0)) → g 25 = .sl a list.length c z → g 26 = .i .i64 list.length → g 27 = .i .i64 i → Keeps h H → h.length + 3 ≤ H.length → H[h.length + 1]? = some ob → H[h.length + 2]? = some (.cells [v0, v1, v3, v4, v5, x, v6, v7] false ty) →
      SB H x (((list.take i).map cl).map (.i .u32)) → (∀ j, x.at j → h.length + 3 ≤ j) → Un M (.code (.loop l_law06_Own_0) :: k) .nrm (frL 40 g) H Q := by
  intro n
  induction n with
  | zero =>
    intro i g H x hi h2 h3 h25 h26 h27 hk hlen ho1 ho2 hb ho
    have : i = list.length := by omega
    subst this
    rw [Un_loop]
    simp only [go_sem, Nat.reduceLT, Nat.reduceLeDiff, Nat.reduceEqDiff, Nat.reduceAdd, Nat.reduceMul, Nat.reduceSub, Int.reduceLT, Int.reduceLE, Int.reduceEq, Int.reduceNe, Int.reduceToNat, Int.reduceAdd, Int.reduceSub, Int.reduceMul, Int.reduceNeg, Int.reduceBEq, Int.reduceBNe, Nat.reduceBEq, l_law06_Own_0, h2, h3, h25, h26, h27, Int.lt_irrefl]
    rw [List.take_length] at hb
    exact hex _ H x hk (by simp only [go_sem, Nat.reduceLT, Nat.reduceLeDiff, Nat.reduceEqDiff, Nat.reduceAdd, Nat.reduceMul, Nat.reduceSub, Int.reduceLT, Int.reduceLE, Int.reduceEq, Int.reduceNe, Int.reduceToNat, Int.reduceAdd, Int.reduceSub, Int.reduceMul, Int.reduceNeg, Int.reduceBEq, Int.reduceBNe, Nat.reduceBEq, h2]) (by simp only [go_sem, Nat.reduceLT, Nat.reduceLeDiff, Nat.reduceEqDiff, Nat.reduceAdd, Nat.reduceMul, Nat.reduceSub, Int.reduceLT, Int.reduceLE, Int.reduceEq, Int.reduceNe, Int.reduceToNat, Int.reduceAdd, Int.reduceSub, Int.reduceMul, Int.reduceNeg, Int.reduceBEq, Int.reduceBNe, Nat.reduceBEq, h3]) ho1 ho2 hb ho
  | succ n ih =>
    intro i g H x hi h2 h3 h25 h26 h27 hk hlen ho1 ho2 hb ho
    have hlt : i < list.length := by omega
    obtain ⟨id, off, us, ro, ty', rfl, rfl, hid, hv⟩ := (hR.keeps hk).lt (i := i) (by simpa using hlt)
    rw [List.getElem_map] at hv
    obtain ⟨H', he, hb', hlen', hkeep⟩ := app1 hb (.i .u32 (cl list[i])) 4 (by simp only [List.length_map, List.length_take]; omega) (by simp only [List.length_map, List.length_take]; omega)
    have hn1 : ¬ x.at (h.length + 1) := fun e => by have := ho _ e; omega
    have hn2 : ¬ x.at (h.length + 2) := fun e => by have := ho _ e; omega
    have hp1 := hkeep _ _ ho1 hn1
    have hp2 := hkeep _ _ ho2 hn2
    obtain ⟨xa, xc, xz, rfl, _⟩ := hb.row
    rw [Un_loop]
    simp only [go_sem, Nat.reduceLT, Nat.reduceLeDiff, Nat.reduceEqDiff, Nat.reduceAdd, Nat.reduceMul, Nat.reduceSub, Int.reduceLT, Int.reduceLE, Int.reduceEq, Int.reduceNe, Int.reduceToNat, Int.reduceAdd, Int.reduceSub, Int.reduceMul, Int.reduceNeg, Int.reduceBEq, Int.reduceBNe, Nat.reduceBEq, l_law06_Own_0, h2, h3, h25, h26, h27, Int.ofNat_lt, hlt, hid, hv, Pc_to (s_num _ _), ho1, ho2, he, hp1, hp2, wrap_next (show i ≤ 4611686018427387904 by omega), Un_again]
    have hk' : Keeps h H' := ⟨by have := hk.1; omega, fun j o hj => hkeep _ _ (hk.2 j o hj) fun hx => by
      have h1 := ho j hx
      have h2 := (List.getElem?_eq_some_iff.1 hj).1
      omega⟩
    have e2 : ((list.take (i + 1)).map cl).map (V.i .u32) = ((list.take i).map cl).map (V.i .u32) ++ [.i .u32 (cl list[i])] := by
      rw [List.take_succ_eq_append_getElem hlt, List.map_append, List.map_append]; rfl
    refine ih (i + 1) _ _ _ (by omega) (by simp only [go_sem, Nat.reduceLT, Nat.reduceLeDiff, Nat.reduceEqDiff, Nat.reduceAdd, Nat.reduceMul, Nat.reduceSub, Int.reduceLT, Int.reduceLE, Int.reduceEq, Int.reduceNe, Int.reduceToNat, Int.reduceAdd, Int.reduceSub, Int.reduceMul, Int.reduceNeg, Int.reduceBEq, Int.reduceBNe, Nat.reduceBEq, h2]) (by simp only [go_sem, Nat.reduceLT, Nat.reduceLeDiff, Nat.reduceEqDiff, Nat.reduceAdd, Nat.reduceMul, Nat.reduceSub, Int.reduceLT, Int.reduceLE, Int.reduceEq, Int.reduceNe, Int.reduceToNat, Int.reduceAdd, Int.reduceSub, Int.reduceMul, Int.reduceNeg, Int.reduceBEq, Int.reduceBNe, Nat.reduceBEq, h3]) (by simp only [go_sem, Nat.reduceLT, Nat.reduceLeDiff, Nat.reduceEqDiff, Nat.reduceAdd, Nat.reduceMul, Nat.reduceSub, Int.reduceLT, Int.reduceLE, Int.reduceEq, Int.reduceNe, Int.reduceToNat, Int.reduceAdd, Int.reduceSub, Int.reduceMul, Int.reduceNeg, Int.reduceBEq, Int.reduceBNe, Nat.reduceBEq, h25]) (by simp only [go_sem, Nat.reduceLT, Nat.reduceLeDiff, Nat.reduceEqDiff, Nat.reduceAdd, Nat.reduceMul, Nat.reduceSub, Int.reduceLT, Int.reduceLE, Int.reduceEq, Int.reduceNe, Int.reduceToNat, Int.reduceAdd, Int.reduceSub, Int.reduceMul, Int.reduceNeg, Int.reduceBEq, Int.reduceBNe, Nat.reduceBEq, h26]) (by simp only [go_sem, Nat.reduceLT, Nat.reduceLeDiff, Nat.reduceEqDiff, Nat.reduceAdd, Nat.reduceMul, Nat.reduceSub, Int.reduceLT, Int.reduceLE, Int.reduceEq, Int.reduceNe, Int.reduceToNat, Int.reduceAdd, Int.reduceSub, Int.reduceMul, Int.reduceNeg, Int.reduceBEq, Int.reduceBNe, Nat.reduceBEq]) (hk'.set (by omega) _) (by simp; omega) (by rw [set_ne _ (by omega)]; exact hp1) (set_same _ (by rw [hp2]; rfl)) ?_ ?_
    · rw [e2]
      rcases hb' with ⟨e, _⟩ | ⟨id', e, hid', _⟩
      · simp at e
      · refine .inr ⟨_, rfl, ?_, by simp⟩
        injection e with e1
        injection e1 with e1
        injection e1 with e1 _
        subst e1
        rw [set_ne _ (by omega)]
        exact hid'
    · rintro j ⟨_, _, _, _, e⟩
      injection e with e1
      injection e1 with e1
      injection e1 with e1 _
      omega
theorem s_Own (u : U) (h : Heap) (a : Option (Nat × Nat)) (c : Option Nat) (z : Nat) (hR : R1 h a z (u.list.map (.i .i64))) (hL : u.list.length ≤ 1000000) :
    ∃ v h', To M n_law06_Own [rV u a c z] h v h' ∧ ∃ a' c' z', v = uV { u with n := cl u.n, ps := cl u.ps, mr := cl u.mr, list := u.list.map cl } a' c' z' ∧ Keeps h h' ∧ R1 h' a' z' ((u.list.map cl).map (.i .u32)) ∧ ∀ j off, a' = some (j, off) → h.length ≤ j := by
  refine To_body' rfl F_law06_Own (Nat.le_of_ble_eq_true rfl) ?_
  obtain ⟨kind, sq, n, ps, mr, list, self, data⟩ := u
  simp only at hR hL
  simp only [go_sem, Nat.reduceLT, Nat.reduceLeDiff, Nat.reduceEqDiff, Nat.reduceAdd, Nat.reduceMul, Nat.reduceSub, Int.reduceLT, Int.reduceLE, Int.reduceEq, Int.reduceNe, Int.reduceToNat, Int.reduceAdd, Int.reduceSub, Int.reduceMul, Int.reduceNeg, Int.reduceBEq, Int.reduceBNe, Nat.reduceBEq, b_law06_Own, rV, Pc_to (s_num _ _)]
  refine own_loop (c := c) hR hL ?_ list.length 0 _ _ (.sl none 0 (some 0) 0) (by omega) ?_ ?_ ?_ ?_ ?_ (Keeps.app _ _) ?_ (get_new _ 1) (get_new _ 2) (SB.nil _) ?_
  · intro g' H x hk h2 h3 ho1 ho2 hb ho
    obtain ⟨a', c', z', rfl, hR'⟩ := hb.row
    simp only [go_sem, Nat.reduceLT, Nat.reduceLeDiff, Nat.reduceEqDiff, Nat.reduceAdd, Nat.reduceMul, Nat.reduceSub, Int.reduceLT, Int.reduceLE, Int.reduceEq, Int.reduceNe, Int.reduceToNat, Int.reduceAdd, Int.reduceSub, Int.reduceMul, Int.reduceNeg, Int.reduceBEq, Int.reduceBNe, Nat.reduceBEq, h2, h3, ho1, ho2]
    refine ⟨_, rfl, a', c', z', ?_, hk.set (by omega) _, hR'.set (fun off e => ?_) _, fun j off e => (by have := ho j ⟨off, _, _, _, by rw [e]⟩; omega)⟩
    · simp [uV]
    · have := ho (h.length + 1) ⟨off, _, _, _, by rw [e]⟩
      omega
  · (first | (simp only [go_sem, Nat.reduceLT, Nat.reduceLeDiff, Nat.reduceEqDiff, Nat.reduceAdd, Nat.reduceMul, Nat.reduceSub, Int.reduceLT, Int.reduceLE, Int.reduceEq, Int.reduceNe, Int.reduceToNat, Int.reduceAdd, Int.reduceSub, Int.reduceMul, Int.reduceNeg, Int.reduceBEq, Int.reduceBNe, Nat.reduceBEq]; done) | (simp only [go_sem, Nat.reduceLT, Nat.reduceLeDiff, Nat.reduceEqDiff, Nat.reduceAdd, Nat.reduceMul, Nat.reduceSub, Int.reduceLT, Int.reduceLE, Int.reduceEq, Int.reduceNe, Int.reduceToNat, Int.reduceAdd, Int.reduceSub, Int.reduceMul, Int.reduceNeg, Int.reduceBEq, Int.reduceBNe, Nat.reduceBEq]; rfl) | rfl)
  · (first | (simp only [go_sem, Nat.reduceLT, Nat.reduceLeDiff, Nat.reduceEqDiff, Nat.reduceAdd, Nat.reduceMul, Nat.reduceSub, Int.reduceLT, Int.reduceLE, Int.reduceEq, Int.reduceNe, Int.reduceToNat, Int.reduceAdd, Int.reduceSub, Int.reduceMul, Int.reduceNeg, Int.reduceBEq, Int.reduceBNe, Nat.reduceBEq]; done) | (simp only [go_sem, Nat.reduceLT, Nat.reduceLeDiff, Nat.reduceEqDiff, Nat.reduceAdd, Nat.reduceMul, Nat.reduceSub, Int.reduceLT, Int.reduceLE, Int.reduceEq, Int.reduceNe, Int.reduceToNat, Int.reduceAdd, Int.reduceSub, Int.reduceMul, Int.reduceNeg, Int.reduceBEq, Int.reduceBNe, Nat.reduceBEq]; rfl) | rfl)
  · (first | (simp only [go_sem, Nat.reduceLT, Nat.reduceLeDiff, Nat.reduceEqDiff, Nat.reduceAdd, Nat.reduceMul, Nat.reduceSub, Int.reduceLT, Int.reduceLE, Int.reduceEq, Int.reduceNe, Int.reduceToNat, Int.reduceAdd, Int.reduceSub, Int.reduceMul, Int.reduceNeg, Int.reduceBEq, Int.reduceBNe, Nat.reduceBEq]; done) | (simp only [go_sem, Nat.reduceLT, Nat.reduceLeDiff, Nat.reduceEqDiff, Nat.reduceAdd, Nat.reduceMul, Nat.reduceSub, Int.reduceLT, Int.reduceLE, Int.reduceEq, Int.reduceNe, Int.reduceToNat, Int.reduceAdd, Int.reduceSub, Int.reduceMul, Int.reduceNeg, Int.reduceBEq, Int.reduceBNe, Nat.reduceBEq]; rfl) | rfl)
  · (first | (simp only [go_sem, Nat.reduceLT, Nat.reduceLeDiff, Nat.reduceEqDiff, Nat.reduceAdd, Nat.reduceMul, Nat.reduceSub, Int.reduceLT, Int.reduceLE, Int.reduceEq, Int.reduceNe, Int.reduceToNat, Int.reduceAdd, Int.reduceSub, Int.reduceMul, Int.reduceNeg, Int.reduceBEq, Int.reduceBNe, Nat.reduceBEq]; done) | (simp only [go_sem, Nat.reduceLT, Nat.reduceLeDiff, Nat.reduceEqDiff, Nat.reduceAdd, Nat.reduceMul, Nat.reduceSub, Int.reduceLT, Int.reduceLE, Int.reduceEq, Int.reduceNe, Int.reduceToNat, Int.reduceAdd, Int.reduceSub, Int.reduceMul, Int.reduceNeg, Int.reduceBEq, Int.reduceBNe, Nat.reduceBEq]; rfl) | rfl)
  · (first | (simp only [go_sem, Nat.reduceLT, Nat.reduceLeDiff, Nat.reduceEqDiff, Nat.reduceAdd, Nat.reduceMul, Nat.reduceSub, Int.reduceLT, Int.reduceLE, Int.reduceEq, Int.reduceNe, Int.reduceToNat, Int.reduceAdd, Int.reduceSub, Int.reduceMul, Int.reduceNeg, Int.reduceBEq, Int.reduceBNe, Nat.reduceBEq]; done) | (simp only [go_sem, Nat.reduceLT, Nat.reduceLeDiff, Nat.reduceEqDiff, Nat.reduceAdd, Nat.reduceMul, Nat.reduceSub, Int.reduceLT, Int.reduceLE, Int.reduceEq, Int.reduceNe, Int.reduceToNat, Int.reduceAdd, Int.reduceSub, Int.reduceMul, Int.reduceNeg, Int.reduceBEq, Int.reduceBNe, Nat.reduceBEq]; rfl) | rfl)
  · simp
  · rintro j ⟨_, _, _, _, e⟩; cases e
end Am
end Go.Proofs.YtjjkjfdojifchaaDoor
