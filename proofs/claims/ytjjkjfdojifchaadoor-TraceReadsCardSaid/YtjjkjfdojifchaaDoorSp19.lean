/-
  WHAT THE FUNCTIONS COME TO, part 19: the fixed fact.
  Conditions: none.
-/
import Derived.Test.YtjjkjfdojifchaaDoorSp17
import Derived.Test.YtjjkjfdojifchaaDoorPu2
set_option linter.unusedVariables false
set_option linter.unusedSimpArgs false
namespace Go.Proofs.YtjjkjfdojifchaaDoor
namespace Am
def uA : U := ⟨11, 0, 3, 9, 40, [3, 5], false, []⟩
def uB : U := ⟨8, 0, 5, 0, 0, [], false, [97, 98]⟩
theorem okA : okU uA := by unfold okU uA; decide
theorem okB : okU uB := by unfold okU uB; decide
theorem txtA : txt uA = [115, 116, 97, 116, 32, 110, 51, 32, 112, 115, 57, 32, 109, 114, 52, 48, 32, 108, 51, 44, 53] := by
  simp [txt, uA, nameL, hasL, fieldT, itoaL, dg, listT, joinL]
theorem txtB : txt uB = [115, 100, 32, 110, 53, 32, 100, 54, 49, 54, 50] := by
  simp [txt, uB, nameL, hasL, fieldT, itoaL, dg, hexT, hexL, hexD]
theorem parseB : parseP [115, 100, 32, 110, 53, 32, 100, 54, 49, 54, 50] = some uB := by rw [← txtB]; exact parse_txt okB
theorem wdA : Wd uA := ⟨by unfold W32 uA; decide, by unfold W32 uA; decide, by unfold W32 uA; decide, by unfold W32 uA; decide, by decide, by decide⟩
theorem wdZ : Wd zeroU := ⟨W0, W0, W0, (fun x hx => by cases hx), by decide, by decide⟩
theorem i640 : I64 0 := by unfold I64; omega
theorem i641 : I64 1 := by unfold I64; omega
theorem Pc_parse {s : List UInt8} {h : Heap} {d : Option Nat} {k : List K} {fr : List V} {Q : X → List V → Heap → Prop} (hg : glOk h = true) (hl : s.length ≤ 100000)
    (hs : ∀ u a c z h', parseP s = some u → Keeps h h' → R1 h' a z (u.list.map (.i .u32)) → W32 u.n → W32 u.ps → W32 u.mr → (∀ x ∈ u.list, W32 x) → Un M k .nrm (put fr d (.t [.g [.i .i64 u.kind, .i .i64 u.sq, .i .u32 u.n, .i .u32 u.ps, .i .u32 u.mr, .sl a u.list.length c z, .b u.self, .s u.data], .b true])) h' Q)
    (hn : ∀ h', parseP s = none → Keeps h h' → Un M k .nrm (put fr d (.t [.g [.i .i64 0, .i .i64 0, .i .u32 0, .i .u32 0, .i .u32 0, .sl none 0 (some 0) 0, .b false, .s []], .b false])) h' Q) : Pc M n_trace_Parse [.s s] h d k fr Q := by
  obtain ⟨v, h', ht, hk, ⟨u, a, c, z, e, rfl, hR, w1, w2, w3, w4⟩ | ⟨e, rfl⟩⟩ := s_Parse s h hg hl
  · exact Pc_of ht (hs u a c z h' e hk hR w1 w2 w3 w4)
  · exact Pc_of ht (hn h' e hk)
theorem s_awake (h : Heap) (hg : glOk h = true) : ∃ v h', To M n_law19_awake [] h v h' ∧ v = .b true ∧ Keeps h h' := by
  refine To_body' rfl F_law19_awake (Nat.le_of_ble_eq_true rfl) ?_
  simp only [go_sem, Nat.reduceLT, Nat.reduceLeDiff, Nat.reduceEqDiff, Nat.reduceAdd, Nat.reduceMul, Nat.reduceSub, Int.reduceLT, Int.reduceLE, Int.reduceEq, Int.reduceNe, Int.reduceToNat, Int.reduceAdd, Int.reduceSub, Int.reduceMul, Int.reduceNeg, Int.reduceBEq, Int.reduceBNe, Nat.reduceBEq, b_law19_awake]
  refine Pc_parse ((Keeps.app _ _).gl hg) (by decide) (fun u a c z h1 e hk1 hR w1 w2 w3 w4 => ?_) (fun h1 e hk1 => ?_)
  · rw [parseB] at e
    injection e with e
    subst e
    have hp := hk1.2 _ _ (get_new _ 1)
    have hl := hk1.2 h.length _ (get_new0 _)
    simp only [go_sem, Nat.reduceLT, Nat.reduceLeDiff, Nat.reduceEqDiff, Nat.reduceAdd, Nat.reduceMul, Nat.reduceSub, Int.reduceLT, Int.reduceLE, Int.reduceEq, Int.reduceNe, Int.reduceToNat, Int.reduceAdd, Int.reduceSub, Int.reduceMul, Int.reduceNeg, Int.reduceBEq, Int.reduceBNe, Nat.reduceBEq, uB, hp]
    have hRA : R1 h1 (some (h.length, 0)) 1 (uA.list.map (.i .u32)) := R1_get hl
    have hg1 := hk1.gl ((Keeps.app _ _).gl hg)
    refine Pc_ofK (s_UnitT uA _ (some (h.length, 0)) (some 2) 1 (hRA.keeps (Keeps.app _ _)) wdA ((Keeps.app _ _).gl hg1)) fun H2 hk2 => ?_
    have hq := hk2.2 _ _ (get_new0 _)
    rw [unitT, if_pos okA, txtA]
    simp only [go_sem, Nat.reduceLT, Nat.reduceLeDiff, Nat.reduceEqDiff, Nat.reduceAdd, Nat.reduceMul, Nat.reduceSub, Int.reduceLT, Int.reduceLE, Int.reduceEq, Int.reduceNe, Int.reduceToNat, Int.reduceAdd, Int.reduceSub, Int.reduceMul, Int.reduceNeg, Int.reduceBEq, Int.reduceBNe, Nat.reduceBEq, hq]
    have hg2 := hk2.gl ((Keeps.app _ _).gl hg1)
    refine Pc_ofK (s_Record 1 4 zeroU none (some 0) 0 0 [] false 0 0 0 [] 0 H2 (show R1 H2 none 0 [] from rfl) wdZ hg2 i641 i640 i640 i640 (by decide) (by decide)) fun H3 hk3 => ?_
    have ht : recT 1 4 zeroU 0 [] false 0 0 0 [] 0 = [49, 32, 120] := by simp [recT, itoaL, dg]
    rw [ht]
    simp only [go_sem, Nat.reduceLT, Nat.reduceLeDiff, Nat.reduceEqDiff, Nat.reduceAdd, Nat.reduceMul, Nat.reduceSub, Int.reduceLT, Int.reduceLE, Int.reduceEq, Int.reduceNe, Int.reduceToNat, Int.reduceAdd, Int.reduceSub, Int.reduceMul, Int.reduceNeg, Int.reduceBEq, Int.reduceBNe, Nat.reduceBEq]
    exact ⟨_, rfl, rfl, (((Keeps.app _ _).trans hk1).trans (Keeps.app _ _)).trans (hk2.trans hk3)⟩
  · rw [parseB] at e; cases e
end Am
end Go.Proofs.YtjjkjfdojifchaaDoor
