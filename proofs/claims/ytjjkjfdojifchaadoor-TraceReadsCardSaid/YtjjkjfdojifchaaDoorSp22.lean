/-
  WHAT THE FUNCTIONS COME TO, part 22: the laws TraceReads and TraceUnlike.
  Conditions: none.
-/
import Derived.Test.YtjjkjfdojifchaaDoorSp20h
import Derived.Test.YtjjkjfdojifchaaDoorSp4
set_option linter.unusedVariables false
set_option linter.unusedSimpArgs false
namespace Go.Proofs.YtjjkjfdojifchaaDoor
namespace Am
theorem Pc_pcheck {x : U} {h : Heap} {a : Option (Nat × Nat)} {c : Option Nat} {z : Nat} {d : Option Nat} {k : List K} {fr : List V} {Q : X → List V → Heap → Prop} (hR : R1 h a z (x.list.map (.i .u32))) (hw : Wd x)
    (hs : ∀ (e : Int) os, (e = 0 ↔ okU x) → Un M k .nrm (put fr d (.i .i64 e)) (h ++ os) Q) :
    Pc M n_pdu_PDU_Check [.g [.i .i64 x.kind, .i .i64 x.sq, .i .u32 x.n, .i .u32 x.ps, .i .u32 x.mr, .sl a x.list.length c z, .b x.self, .s x.data]] h d k fr Q := by
  obtain ⟨v, h', ht, e, os, rfl, rfl, he⟩ := s_pCheck x h a c z hR (by have := hw.len; omega) hw.n hw.ps hw.mr hw.list
  exact Pc_of ht (hs e os he)
theorem okU_W {u : U} (ok : okU u) : Wd u := by
  obtain ⟨l1, l2, l3, l4, l5⟩ := okU_low ok
  have h7 := ok.2.2.2.1
  have h8 : u.data.length ≤ 200 := by
    have := ok.2.2.1
    unfold most at this
    split at this
    · omega
    · split at this <;> omega
  exact ⟨low_W l2, low_W l3, low_W l4, fun x hx => low_W (l5 x hx), by omega, by omega⟩
theorem s_TraceReads (s : List UInt8) (h : Heap) (hg : glOk h = true) :
    ∃ v h', To M n_law19_TraceReads [.s s] h v h' ∧ v = .b true := by
  refine To_body' rfl F_law19_TraceReads (Nat.le_of_ble_eq_true rfl) ?_
  simp only [go_sem, Nat.reduceLT, Nat.reduceLeDiff, Nat.reduceEqDiff, Nat.reduceAdd, Nat.reduceMul, Nat.reduceSub, Int.reduceLT, Int.reduceLE, Int.reduceEq, Int.reduceNe, Int.reduceToNat, Int.reduceAdd, Int.reduceSub, Int.reduceMul, Int.reduceNeg, Int.reduceBEq, Int.reduceBNe, Nat.reduceBEq, b_law19_TraceReads]
  refine Pc_ofK (s_awake _ hg) fun H1 hk1 => ?_
  have hg1 := hk1.gl hg
  simp only [go_sem, Nat.reduceLT, Nat.reduceLeDiff, Nat.reduceEqDiff, Nat.reduceAdd, Nat.reduceMul, Nat.reduceSub, Int.reduceLT, Int.reduceLE, Int.reduceEq, Int.reduceNe, Int.reduceToNat, Int.reduceAdd, Int.reduceSub, Int.reduceMul, Int.reduceNeg, Int.reduceBEq, Int.reduceBNe, Nat.reduceBEq, Pc_to (s_Cut s 600 (by decide) _)]
  have hl : (s.take 600).length ≤ 600 := by simp; omega
  generalize s.take 600 = t at *
  refine Pc_parse hg1 (by omega) (fun v a7 c7 z7 H7 e hk7 hR7 w1 w2 w3 w4 => ?_) (fun H7 e hk7 => ?_)
  · obtain ⟨ok, rfl⟩ := (parse_iff t v).1 e
    have hw := okU_W ok
    have hg7 := hk7.gl hg1
    simp only [go_sem, Nat.reduceLT, Nat.reduceLeDiff, Nat.reduceEqDiff, Nat.reduceAdd, Nat.reduceMul, Nat.reduceSub, Int.reduceLT, Int.reduceLE, Int.reduceEq, Int.reduceNe, Int.reduceToNat, Int.reduceAdd, Int.reduceSub, Int.reduceMul, Int.reduceNeg, Int.reduceBEq, Int.reduceBNe, Nat.reduceBEq]
    refine Pc_unit (hR7.keeps (Keeps.app _ _)) hw ((Keeps.app _ _).gl hg7) fun H8 hk8 => ?_
    have hp8 := hk8.2 H7.length _ (get_new0 _)
    rw [unitT, if_pos ok]
    simp only [go_sem, Nat.reduceLT, Nat.reduceLeDiff, Nat.reduceEqDiff, Nat.reduceAdd, Nat.reduceMul, Nat.reduceSub, Int.reduceLT, Int.reduceLE, Int.reduceEq, Int.reduceNe, Int.reduceToNat, Int.reduceAdd, Int.reduceSub, Int.reduceMul, Int.reduceNeg, Int.reduceBEq, Int.reduceBNe, Nat.reduceBEq, hp8]
    refine Pc_pcheck ((hR7.keeps (Keeps.app _ _)).keeps hk8) hw fun e2 os he2 => ?_
    have e0 : e2 = 0 := he2.2 ok
    subst e0
    simp only [go_sem, Nat.reduceLT, Nat.reduceLeDiff, Nat.reduceEqDiff, Nat.reduceAdd, Nat.reduceMul, Nat.reduceSub, Int.reduceLT, Int.reduceLE, Int.reduceEq, Int.reduceNe, Int.reduceToNat, Int.reduceAdd, Int.reduceSub, Int.reduceMul, Int.reduceNeg, Int.reduceBEq, Int.reduceBNe, Nat.reduceBEq]
    exact ⟨_, rfl, rfl⟩
  · simp only [go_sem, Nat.reduceLT, Nat.reduceLeDiff, Nat.reduceEqDiff, Nat.reduceAdd, Nat.reduceMul, Nat.reduceSub, Int.reduceLT, Int.reduceLE, Int.reduceEq, Int.reduceNe, Int.reduceToNat, Int.reduceAdd, Int.reduceSub, Int.reduceMul, Int.reduceNeg, Int.reduceBEq, Int.reduceBNe, Nat.reduceBEq]
    exact ⟨_, rfl, rfl⟩
theorem s_TraceUnlike (x y : U) (h : Heap) (a a' : Option (Nat × Nat)) (c c' : Option Nat) (z z' : Nat) (hR : R1 h a z (x.list.map (.i .i64))) (hR' : R1 h a' z' (y.list.map (.i .i64))) (hg : glOk h = true) :
    ∃ v h', To M n_law19_TraceUnlike [rV x a c z, rV y a' c' z'] h v h' ∧ v = .b true := by
  refine To_body' rfl F_law19_TraceUnlike (Nat.le_of_ble_eq_true rfl) ?_
  simp only [go_sem, Nat.reduceLT, Nat.reduceLeDiff, Nat.reduceEqDiff, Nat.reduceAdd, Nat.reduceMul, Nat.reduceSub, Int.reduceLT, Int.reduceLE, Int.reduceEq, Int.reduceNe, Int.reduceToNat, Int.reduceAdd, Int.reduceSub, Int.reduceMul, Int.reduceNeg, Int.reduceBEq, Int.reduceBNe, Nat.reduceBEq, b_law19_TraceUnlike, rV]
  refine Pc_ofK (s_awake _ ((Keeps.app _ _).gl hg)) fun H1 hk1 => ?_
  have hp1 := hk1.2 _ _ (get_new0 _)
  have hq1 := hk1.2 _ _ (get_new _ 1)
  have hR1 := hR.keeps ((Keeps.app _ _).trans hk1)
  have hR1' := hR'.keeps ((Keeps.app _ _).trans hk1)
  have hg1 := hk1.gl ((Keeps.app _ _).gl hg)
  simp only [go_sem, Nat.reduceLT, Nat.reduceLeDiff, Nat.reduceEqDiff, Nat.reduceAdd, Nat.reduceMul, Nat.reduceSub, Int.reduceLT, Int.reduceLE, Int.reduceEq, Int.reduceNe, Int.reduceToNat, Int.reduceAdd, Int.reduceSub, Int.reduceMul, Int.reduceNeg, Int.reduceBEq, Int.reduceBNe, Nat.reduceBEq, hp1, hq1]
  refine Pc_few hR1 fun a2 c2 z2 H2 hk2 hR2 hn2 => ?_
  have hp2 := hk2.2 _ _ hp1
  have hq2 := hk2.2 _ _ hq1
  simp only [go_sem, Nat.reduceLT, Nat.reduceLeDiff, Nat.reduceEqDiff, Nat.reduceAdd, Nat.reduceMul, Nat.reduceSub, Int.reduceLT, Int.reduceLE, Int.reduceEq, Int.reduceNe, Int.reduceToNat, Int.reduceAdd, Int.reduceSub, Int.reduceMul, Int.reduceNeg, Int.reduceBEq, Int.reduceBNe, Nat.reduceBEq, hp2, hq2]
  refine Pc_few (hR1'.keeps hk2) fun a3 c3 z3 H3 hk3 hR3 hn3 => ?_
  have hp3 := hk3.2 _ _ hp2
  have hq3 := hk3.2 _ _ hq2
  have l1 := (List.getElem?_eq_some_iff.1 hq1).1
  have l2 := (List.getElem?_eq_some_iff.1 hq2).1
  have hk4 : Keeps h ((H3.set h.length (.cells [.i .i64 (fewU x).kind, .i .i64 (fewU x).sq, .i .i64 (fewU x).n, .i .i64 (fewU x).ps, .i .i64 (fewU x).mr, .sl a2 (fewU x).list.length c2 z2, .b (fewU x).self, .s (fewU x).data] false none)).set (h.length + 1) (.cells [.i .i64 (fewU y).kind, .i .i64 (fewU y).sq, .i .i64 (fewU y).n, .i .i64 (fewU y).ps, .i .i64 (fewU y).mr, .sl a3 (fewU y).list.length c3 z3, .b (fewU y).self, .s (fewU y).data] false none)) := ((((Keeps.app _ _).trans hk1).trans (hk2.trans hk3)).set (Nat.le_refl _) _).set (by omega) _
  have hp4 : ((H3.set h.length (.cells [.i .i64 (fewU x).kind, .i .i64 (fewU x).sq, .i .i64 (fewU x).n, .i .i64 (fewU x).ps, .i .i64 (fewU x).mr, .sl a2 (fewU x).list.length c2 z2, .b (fewU x).self, .s (fewU x).data] false none)).set (h.length + 1) (.cells [.i .i64 (fewU y).kind, .i .i64 (fewU y).sq, .i .i64 (fewU y).n, .i .i64 (fewU y).ps, .i .i64 (fewU y).mr, .sl a3 (fewU y).list.length c3 z3, .b (fewU y).self, .s (fewU y).data] false none))[h.length]? = _ := (set_ne _ (by omega)).trans (set_same _ (by rw [hp3]; rfl))
  have hq4 : ((H3.set h.length (.cells [.i .i64 (fewU x).kind, .i .i64 (fewU x).sq, .i .i64 (fewU x).n, .i .i64 (fewU x).ps, .i .i64 (fewU x).mr, .sl a2 (fewU x).list.length c2 z2, .b (fewU x).self, .s (fewU x).data] false none)).set (h.length + 1) (.cells [.i .i64 (fewU y).kind, .i .i64 (fewU y).sq, .i .i64 (fewU y).n, .i .i64 (fewU y).ps, .i .i64 (fewU y).mr, .sl a3 (fewU y).list.length c3 z3, .b (fewU y).self, .s (fewU y).data] false none))[h.length + 1]? = _ := set_same _ (by rw [set_ne _ (by omega), hq3]; rfl)
  have hR4 : R1 ((H3.set h.length (.cells [.i .i64 (fewU x).kind, .i .i64 (fewU x).sq, .i .i64 (fewU x).n, .i .i64 (fewU x).ps, .i .i64 (fewU x).mr, .sl a2 (fewU x).list.length c2 z2, .b (fewU x).self, .s (fewU x).data] false none)).set (h.length + 1) (.cells [.i .i64 (fewU y).kind, .i .i64 (fewU y).sq, .i .i64 (fewU y).n, .i .i64 (fewU y).ps, .i .i64 (fewU y).mr, .sl a3 (fewU y).list.length c3 z3, .b (fewU y).self, .s (fewU y).data] false none)) a2 z2 ((fewU x).list.map (.i .i64)) := ((hR2.keeps hk3).set (fun off e => by have := hn2 _ _ e; omega) _).set (fun off e => by have := hn2 _ _ e; omega) _
  have hR4' : R1 ((H3.set h.length (.cells [.i .i64 (fewU x).kind, .i .i64 (fewU x).sq, .i .i64 (fewU x).n, .i .i64 (fewU x).ps, .i .i64 (fewU x).mr, .sl a2 (fewU x).list.length c2 z2, .b (fewU x).self, .s (fewU x).data] false none)).set (h.length + 1) (.cells [.i .i64 (fewU y).kind, .i .i64 (fewU y).sq, .i .i64 (fewU y).n, .i .i64 (fewU y).ps, .i .i64 (fewU y).mr, .sl a3 (fewU y).list.length c3 z3, .b (fewU y).self, .s (fewU y).data] false none)) a3 z3 ((fewU y).list.map (.i .i64)) := (hR3.set (fun off e => by have := hn3 _ _ e; omega) _).set (fun off e => by have := hn3 _ _ e; omega) _
  simp only [go_sem, Nat.reduceLT, Nat.reduceLeDiff, Nat.reduceEqDiff, Nat.reduceAdd, Nat.reduceMul, Nat.reduceSub, Int.reduceLT, Int.reduceLE, Int.reduceEq, Int.reduceNe, Int.reduceToNat, Int.reduceAdd, Int.reduceSub, Int.reduceMul, Int.reduceNeg, Int.reduceBEq, Int.reduceBNe, Nat.reduceBEq, hp1, hq1, hp2, hq2, hp3, hq3]
  generalize ((H3.set h.length (.cells [.i .i64 (fewU x).kind, .i .i64 (fewU x).sq, .i .i64 (fewU x).n, .i .i64 (fewU x).ps, .i .i64 (fewU x).mr, .sl a2 (fewU x).list.length c2 z2, .b (fewU x).self, .s (fewU x).data] false none)).set (h.length + 1) (.cells [.i .i64 (fewU y).kind, .i .i64 (fewU y).sq, .i .i64 (fewU y).n, .i .i64 (fewU y).ps, .i .i64 (fewU y).mr, .sl a3 (fewU y).list.length c3 z3, .b (fewU y).self, .s (fewU y).data] false none)) = H4 at hk4 hp4 hq4 hR4 hR4' ⊢
  have hw := few_W x
  have hw' := few_W y
  have hg4 := hk4.gl hg
  refine Pc_rcheck hR4 hw fun e1 os he => ?_
  by_cases ok : okU (fewU x)
  · have e0 := he.2 ok
    subst e0
    have hp5 := (Keeps.app H4 os).2 _ _ hp4
    have hq5 := (Keeps.app H4 os).2 _ _ hq4
    have hR5 := hR4.keeps (Keeps.app H4 os)
    have hR5' := hR4'.keeps (Keeps.app H4 os)
    have hg5 := (Keeps.app H4 os).gl hg4
    generalize H4 ++ os = H5 at hp5 hq5 hR5 hR5' hg5 ⊢
    simp only [go_sem, Nat.reduceLT, Nat.reduceLeDiff, Nat.reduceEqDiff, Nat.reduceAdd, Nat.reduceMul, Nat.reduceSub, Int.reduceLT, Int.reduceLE, Int.reduceEq, Int.reduceNe, Int.reduceToNat, Int.reduceAdd, Int.reduceSub, Int.reduceMul, Int.reduceNeg, Int.reduceBEq, Int.reduceBNe, Nat.reduceBEq, hp5, hq5]
    refine Pc_rcheck hR5' hw' fun e2 os2 he2 => ?_
    by_cases ok2 : okU (fewU y)
    · have e0 := he2.2 ok2
      subst e0
      have hp6 := (Keeps.app H5 os2).2 _ _ hp5
      have hq6 := (Keeps.app H5 os2).2 _ _ hq5
      have hR6 := hR5.keeps (Keeps.app H5 os2)
      have hR6' := hR5'.keeps (Keeps.app H5 os2)
      have hg6 := (Keeps.app H5 os2).gl hg5
      generalize H5 ++ os2 = H6 at hp6 hq6 hR6 hR6' hg6 ⊢
      simp only [go_sem, Nat.reduceLT, Nat.reduceLeDiff, Nat.reduceEqDiff, Nat.reduceAdd, Nat.reduceMul, Nat.reduceSub, Int.reduceLT, Int.reduceLE, Int.reduceEq, Int.reduceNe, Int.reduceToNat, Int.reduceAdd, Int.reduceSub, Int.reduceMul, Int.reduceNeg, Int.reduceBEq, Int.reduceBNe, Nat.reduceBEq, hp6, hq6]
      refine Pc_own (hR6.keeps (Keeps.app _ _)) fun a7 c7 z7 H7 hk7 hR7 hn7 => ?_
      have hp7 := hk7.2 h.length _ ((Keeps.app _ _).2 _ _ hp6)
      have hq7 := hk7.2 (h.length + 1) _ ((Keeps.app _ _).2 _ _ hq6)
      have hu7 := hk7.2 _ _ (get_new0 _)
      have hv7 := hk7.2 _ _ (get_new _ 1)
      simp only [go_sem, Nat.reduceLT, Nat.reduceLeDiff, Nat.reduceEqDiff, Nat.reduceAdd, Nat.reduceMul, Nat.reduceSub, Int.reduceLT, Int.reduceLE, Int.reduceEq, Int.reduceNe, Int.reduceToNat, Int.reduceAdd, Int.reduceSub, Int.reduceMul, Int.reduceNeg, Int.reduceBEq, Int.reduceBNe, Nat.reduceBEq, hp7, hq7, hu7, hv7, hp6, hq6]
      have hP7 := hk7.1
      simp only [List.length_append, List.length_cons, List.length_nil] at hP7
      refine Pc_own ((hR6'.keeps (Keeps.app _ _)).keeps hk7) fun a8 c8 z8 H8 hk8 hR8 hn8 => ?_
      have hp8 := hk8.2 _ _ hp7
      have hq8 := hk8.2 _ _ hq7
      have hu8 := hk8.2 _ _ hu7
      have hv8 := hk8.2 _ _ hv7
      have l6 := (List.getElem?_eq_some_iff.1 hq6).1
      have hP8 := hk8.1
      have hk9 : Keeps H6 ((H8.set H6.length (.cells [.i .i64 (fewU x).kind, .i .i64 (fewU x).sq, .i .u32 (fewU x).n, .i .u32 (fewU x).ps, .i .u32 (fewU x).mr, .sl a7 (fewU x).list.length c7 z7, .b (fewU x).self, .s (fewU x).data] false (some 28))).set (H6.length + 1) (.cells [.i .i64 (fewU y).kind, .i .i64 (fewU y).sq, .i .u32 (fewU y).n, .i .u32 (fewU y).ps, .i .u32 (fewU y).mr, .sl a8 (fewU y).list.length c8 z8, .b (fewU y).self, .s (fewU y).data] false (some 28))) := ((((Keeps.app _ _).trans hk7).trans hk8).set (Nat.le_refl _) _).set (by omega) _
      have hu9 : ((H8.set H6.length (.cells [.i .i64 (fewU x).kind, .i .i64 (fewU x).sq, .i .u32 (fewU x).n, .i .u32 (fewU x).ps, .i .u32 (fewU x).mr, .sl a7 (fewU x).list.length c7 z7, .b (fewU x).self, .s (fewU x).data] false (some 28))).set (H6.length + 1) (.cells [.i .i64 (fewU y).kind, .i .i64 (fewU y).sq, .i .u32 (fewU y).n, .i .u32 (fewU y).ps, .i .u32 (fewU y).mr, .sl a8 (fewU y).list.length c8 z8, .b (fewU y).self, .s (fewU y).data] false (some 28)))[H6.length]? = _ := (set_ne _ (by omega)).trans (set_same _ (by rw [hu8]; rfl))
      have hv9 : ((H8.set H6.length (.cells [.i .i64 (fewU x).kind, .i .i64 (fewU x).sq, .i .u32 (fewU x).n, .i .u32 (fewU x).ps, .i .u32 (fewU x).mr, .sl a7 (fewU x).list.length c7 z7, .b (fewU x).self, .s (fewU x).data] false (some 28))).set (H6.length + 1) (.cells [.i .i64 (fewU y).kind, .i .i64 (fewU y).sq, .i .u32 (fewU y).n, .i .u32 (fewU y).ps, .i .u32 (fewU y).mr, .sl a8 (fewU y).list.length c8 z8, .b (fewU y).self, .s (fewU y).data] false (some 28)))[H6.length + 1]? = _ := set_same _ (by rw [set_ne _ (by omega), hv8]; rfl)
      have hR9 : R1 ((H8.set H6.length (.cells [.i .i64 (fewU x).kind, .i .i64 (fewU x).sq, .i .u32 (fewU x).n, .i .u32 (fewU x).ps, .i .u32 (fewU x).mr, .sl a7 (fewU x).list.length c7 z7, .b (fewU x).self, .s (fewU x).data] false (some 28))).set (H6.length + 1) (.cells [.i .i64 (fewU y).kind, .i .i64 (fewU y).sq, .i .u32 (fewU y).n, .i .u32 (fewU y).ps, .i .u32 (fewU y).mr, .sl a8 (fewU y).list.length c8 z8, .b (fewU y).self, .s (fewU y).data] false (some 28))) a7 z7 ((fewU x).list.map (.i .u32)) := ((hR7.keeps hk8).set (fun off e => by have := hn7 _ _ e; simp only [List.length_append, List.length_cons, List.length_nil] at this; omega) _).set (fun off e => by have := hn7 _ _ e; simp only [List.length_append, List.length_cons, List.length_nil] at this; omega) _
      have hR9' : R1 ((H8.set H6.length (.cells [.i .i64 (fewU x).kind, .i .i64 (fewU x).sq, .i .u32 (fewU x).n, .i .u32 (fewU x).ps, .i .u32 (fewU x).mr, .sl a7 (fewU x).list.length c7 z7, .b (fewU x).self, .s (fewU x).data] false (some 28))).set (H6.length + 1) (.cells [.i .i64 (fewU y).kind, .i .i64 (fewU y).sq, .i .u32 (fewU y).n, .i .u32 (fewU y).ps, .i .u32 (fewU y).mr, .sl a8 (fewU y).list.length c8 z8, .b (fewU y).self, .s (fewU y).data] false (some 28))) a8 z8 ((fewU y).list.map (.i .u32)) := (hR8.set (fun off e => by have := hn8 _ _ e; omega) _).set (fun off e => by have := hn8 _ _ e; omega) _
      simp only [go_sem, Nat.reduceLT, Nat.reduceLeDiff, Nat.reduceEqDiff, Nat.reduceAdd, Nat.reduceMul, Nat.reduceSub, Int.reduceLT, Int.reduceLE, Int.reduceEq, Int.reduceNe, Int.reduceToNat, Int.reduceAdd, Int.reduceSub, Int.reduceMul, Int.reduceNeg, Int.reduceBEq, Int.reduceBNe, Nat.reduceBEq, hp7, hq7, hu7, hv7, hp6, hq6, hp8, hq8, hu8, hv8]
      generalize ((H8.set H6.length (.cells [.i .i64 (fewU x).kind, .i .i64 (fewU x).sq, .i .u32 (fewU x).n, .i .u32 (fewU x).ps, .i .u32 (fewU x).mr, .sl a7 (fewU x).list.length c7 z7, .b (fewU x).self, .s (fewU x).data] false (some 28))).set (H6.length + 1) (.cells [.i .i64 (fewU y).kind, .i .i64 (fewU y).sq, .i .u32 (fewU y).n, .i .u32 (fewU y).ps, .i .u32 (fewU y).mr, .sl a8 (fewU y).list.length c8 z8, .b (fewU y).self, .s (fewU y).data] false (some 28))) = H9 at hk9 hu9 hv9 hR9 hR9' ⊢
      have hp9 := hk9.2 _ _ hp6
      have hq9 := hk9.2 _ _ hq6
      simp only [go_sem, Nat.reduceLT, Nat.reduceLeDiff, Nat.reduceEqDiff, Nat.reduceAdd, Nat.reduceMul, Nat.reduceSub, Int.reduceLT, Int.reduceLE, Int.reduceEq, Int.reduceNe, Int.reduceToNat, Int.reduceAdd, Int.reduceSub, Int.reduceMul, Int.reduceNeg, Int.reduceBEq, Int.reduceBNe, Nat.reduceBEq, hp9, hq9, hu9, hv9]
      refine Pc_unit hR9 hw (hk9.gl hg6) fun H10 hk10 => ?_
      simp only [go_sem, Nat.reduceLT, Nat.reduceLeDiff, Nat.reduceEqDiff, Nat.reduceAdd, Nat.reduceMul, Nat.reduceSub, Int.reduceLT, Int.reduceLE, Int.reduceEq, Int.reduceNe, Int.reduceToNat, Int.reduceAdd, Int.reduceSub, Int.reduceMul, Int.reduceNeg, Int.reduceBEq, Int.reduceBNe, Nat.reduceBEq, hk10.2 _ _ hp9, hk10.2 _ _ hq9, hk10.2 _ _ hu9, hk10.2 _ _ hv9, hp9, hq9, hu9, hv9]
      refine Pc_unit (hR9'.keeps hk10) hw' (hk10.gl (hk9.gl hg6)) fun H11 hk11 => ?_
      have hk12 := hk10.trans hk11
      simp only [go_sem, Nat.reduceLT, Nat.reduceLeDiff, Nat.reduceEqDiff, Nat.reduceAdd, Nat.reduceMul, Nat.reduceSub, Int.reduceLT, Int.reduceLE, Int.reduceEq, Int.reduceNe, Int.reduceToNat, Int.reduceAdd, Int.reduceSub, Int.reduceMul, Int.reduceNeg, Int.reduceBEq, Int.reduceBNe, Nat.reduceBEq, hk10.2 _ _ hp9, hk10.2 _ _ hq9, hk10.2 _ _ hu9, hk10.2 _ _ hv9, hk12.2 _ _ hp9, hk12.2 _ _ hq9, hk12.2 _ _ hu9, hk12.2 _ _ hv9, hp9, hq9, hu9, hv9]
      refine Pc_same (hR9.keeps hk12) ((hR6'.keeps hk9).keeps hk12) hw hw'.len fun e os3 he3 => ?_
      have eq : decide (unitT (fewU x) = unitT (fewU y)) = e := by
        rw [unitT, if_pos ok, unitT, if_pos ok2, Bool.eq_iff_iff, decide_eq_true_iff, he3]
        exact ⟨fun c => txt_inj ok ok2 c, fun c => by rw [c]⟩
      simp only [go_sem, Nat.reduceLT, Nat.reduceLeDiff, Nat.reduceEqDiff, Nat.reduceAdd, Nat.reduceMul, Nat.reduceSub, Int.reduceLT, Int.reduceLE, Int.reduceEq, Int.reduceNe, Int.reduceToNat, Int.reduceAdd, Int.reduceSub, Int.reduceMul, Int.reduceNeg, Int.reduceBEq, Int.reduceBNe, Nat.reduceBEq, eq, hk10.2 _ _ hp9, hk10.2 _ _ hq9, hk10.2 _ _ hu9, hk10.2 _ _ hv9, hk12.2 _ _ hp9, hk12.2 _ _ hq9, hk12.2 _ _ hu9, hk12.2 _ _ hv9, hp9, hq9, hu9, hv9]
      exact ⟨_, rfl, rfl⟩
    · have e0 : ¬ e2 = 0 := fun c => ok2 (he2.1 c)
      simp only [go_sem, Nat.reduceLT, Nat.reduceLeDiff, Nat.reduceEqDiff, Nat.reduceAdd, Nat.reduceMul, Nat.reduceSub, Int.reduceLT, Int.reduceLE, Int.reduceEq, Int.reduceNe, Int.reduceToNat, Int.reduceAdd, Int.reduceSub, Int.reduceMul, Int.reduceNeg, Int.reduceBEq, Int.reduceBNe, Nat.reduceBEq, e0]
      exact ⟨_, rfl, rfl⟩
  · have e0 : ¬ e1 = 0 := fun c => ok (he.1 c)
    simp only [go_sem, Nat.reduceLT, Nat.reduceLeDiff, Nat.reduceEqDiff, Nat.reduceAdd, Nat.reduceMul, Nat.reduceSub, Int.reduceLT, Int.reduceLE, Int.reduceEq, Int.reduceNe, Int.reduceToNat, Int.reduceAdd, Int.reduceSub, Int.reduceMul, Int.reduceNeg, Int.reduceBEq, Int.reduceBNe, Nat.reduceBEq, e0]
    exact ⟨_, rfl, rfl⟩
end Am
end Go.Proofs.YtjjkjfdojifchaaDoor
