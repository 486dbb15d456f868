/-
  WHAT THE FUNCTIONS COME TO, part 21: the law TraceRecords.
  Conditions: none.
-/
import Derived.Test.YtjjkjfdojifchaaGreatDoorSp20h
import Derived.Test.YtjjkjfdojifchaaGreatDoorSp18
set_option linter.unusedVariables false
set_option linter.unusedSimpArgs false
namespace Go.Proofs.YtjjkjfdojifchaaGreatDoor
namespace Am
theorem wrap_I64 (y : Int) : I64 (IntKind.i64.wrap y) := by
  unfold I64
  simp only [IntKind.wrap, IntKind.bits, IntKind.signed]
  constructor
  · simp; omega
  · simp; omega
theorem s_Lines2 {h : Heap} {W : Nat} {c : Option Nat} {ro : Bool} {ty : Option Nat} {rv : List V} {T : List UInt8} (hW : h[W]? = some (.cells (rv ++ rv) ro ty)) (h1 : rv.length = 18) (h2 : rv.all V.one = true) (h3 : T.length ≤ 10000000)
    (hrec : ∀ H, Keeps h H → ∃ v h', To M n_trace_Record [.g rv] H v h' ∧ v = .s T ∧ Keeps H h') :
    ∃ v h', To M n_trace_Lines [.sl (some (W, 0)) 2 c 18] h v h' ∧ v = .s (T ++ [10] ++ T ++ [10]) ∧ Keeps h h' := by
  have hlt : linesT [(rv, T), (rv, T)] = T ++ [10] ++ T ++ [10] := by simp [linesT]
  have hy : ∀ y ∈ [(rv, T), (rv, T)], y = (rv, T) := by simp
  rw [← hlt]
  exact s_Lines (l := [(rv, T), (rv, T)]) (by simpa using hW) (by simp) (fun y hm => by rw [hy y hm]; exact ⟨h1, h2, h3⟩) (fun y hm H' hk => by rw [hy y hm]; exact hrec H' hk)
def c_recT : C := (.seq (.reg r_law19_TraceRecords_26) .ret)
theorem rec_tail {Q : X → List V → Heap → Prop} {m k : Int} {x : U} {a : Option (Nat × Nat)} {c : Option Nat} {z : Nat} {sk : Int} {sd : List UInt8} {ss : Bool} {sc : UInt8} {sn : Int} {rk : Int} {rd : List UInt8} {rn : Int} {H : Heap} {P : Nat} {ro : Bool} {ty : Option Nat} {g : Nat → V}
    (hw : Wd x) (hm : I64 m) (hsn : I64 sn) (hrk : I64 rk) (hrn : I64 rn) (hsd : sd.length ≤ 1000) (hrd : rd.length ≤ 1000)
    (h2 : g 2 = .p (some (P, 0))) (h5 : g 5 = .s (recT m k x sk sd ss sc sn rk rd rn)) (hP : H[P]? = some (.cells [.i .i64 m, .i .i64 k, .i .i64 x.kind, .i .i64 x.sq, .i .u32 x.n, .i .u32 x.ps, .i .u32 x.mr, .sl a x.list.length c z, .b x.self, .s x.data, .i .i64 sk, .s sd, .b ss, .i .u8 sc.toNat, .i .i64 sn, .i .i64 rk, .s rd, .i .i64 rn] ro ty)) (hR : R1 H a z (x.list.map (.i .u32))) (hg : glOk H = true)
    (hfin : ∀ g' H', g' 4 = .b true → Q .ret (frL 121 g') H') : Un M [.code c_recT] .nrm (frL 121 g) H Q := by
  have hrec := fun (H' : Heap) (hk : Keeps H H') => s_Record m k x a c z sk sd ss sc sn rk rd rn H' (hR.keeps hk) hw (hk.gl hg) hm hsn hrk hrn hsd hrd
  generalize hT : recT m k x sk sd ss sc sn rk rd rn = T at *
  unfold recV at hrec
  simp only [go_sem, Nat.reduceLT, Nat.reduceLeDiff, Nat.reduceEqDiff, Nat.reduceAdd, Nat.reduceMul, Nat.reduceSub, Int.reduceLT, Int.reduceLE, Int.reduceEq, Int.reduceNe, Int.reduceToNat, Int.reduceAdd, Int.reduceSub, Int.reduceMul, Int.reduceNeg, Int.reduceBEq, Int.reduceBNe, Nat.reduceBEq, c_recT, h2, h5, hP]
  refine Pc_ofK (hrec H (Keeps.refl _)) fun H1 hk1 => ?_
  have hP1 := hk1.2 _ _ hP
  simp only [go_sem, Nat.reduceLT, Nat.reduceLeDiff, Nat.reduceEqDiff, Nat.reduceAdd, Nat.reduceMul, Nat.reduceSub, Int.reduceLT, Int.reduceLE, Int.reduceEq, Int.reduceNe, Int.reduceToNat, Int.reduceAdd, Int.reduceSub, Int.reduceMul, Int.reduceNeg, Int.reduceBEq, Int.reduceBNe, Nat.reduceBEq, h2, h5, hP1]
  have hTl : T.length ≤ 9000000 := by
    rw [← hT]
    have l1 := itoaL_le hm.1 hm.2
    have l2 := itoaL_le hrk.1 hrk.2
    have l3 := itoaL_le hrn.1 hrn.2
    have l4 := unitT_len hw
    have l5 := sigT_len sk sd ss sc sn hsd hsn
    have l6 := hexT_len rd
    unfold recT
    repeat' split
    all_goals simp only [List.length_append, List.length_cons, List.length_nil]
    all_goals omega
  refine Pc_ofK (s_Lines2 (rv := [.i .i64 m, .i .i64 k, .i .i64 x.kind, .i .i64 x.sq, .i .u32 x.n, .i .u32 x.ps, .i .u32 x.mr, .sl a x.list.length c z, .b x.self, .s x.data, .i .i64 sk, .s sd, .b ss, .i .u8 sc.toNat, .i .i64 sn, .i .i64 rk, .s rd, .i .i64 rn]) (T := T) (ro := false) (ty := none) (show _ = some _ from get_new0 _) rfl rfl (by omega) (fun H' hk' => hrec H' (hk1.trans ((Keeps.app _ _).trans hk')))) fun H2 hk2 => ?_
  simp only [go_sem, Nat.reduceLT, Nat.reduceLeDiff, Nat.reduceEqDiff, Nat.reduceAdd, Nat.reduceMul, Nat.reduceSub, Int.reduceLT, Int.reduceLE, Int.reduceEq, Int.reduceNe, Int.reduceToNat, Int.reduceAdd, Int.reduceSub, Int.reduceMul, Int.reduceNeg, Int.reduceBEq, Int.reduceBNe, Nat.reduceBEq, h5]
  refine Po_add (by simp; omega) ?_
  simp only [go_sem, Nat.reduceLT, Nat.reduceLeDiff, Nat.reduceEqDiff, Nat.reduceAdd, Nat.reduceMul, Nat.reduceSub, Int.reduceLT, Int.reduceLE, Int.reduceEq, Int.reduceNe, Int.reduceToNat, Int.reduceAdd, Int.reduceSub, Int.reduceMul, Int.reduceNeg, Int.reduceBEq, Int.reduceBNe, Nat.reduceBEq, h5]
  refine Po_add (by simp; omega) ?_
  simp only [go_sem, Nat.reduceLT, Nat.reduceLeDiff, Nat.reduceEqDiff, Nat.reduceAdd, Nat.reduceMul, Nat.reduceSub, Int.reduceLT, Int.reduceLE, Int.reduceEq, Int.reduceNe, Int.reduceToNat, Int.reduceAdd, Int.reduceSub, Int.reduceMul, Int.reduceNeg, Int.reduceBEq, Int.reduceBNe, Nat.reduceBEq, h5]
  refine Po_add (by simp; omega) ?_
  simp only [go_sem, Nat.reduceLT, Nat.reduceLeDiff, Nat.reduceEqDiff, Nat.reduceAdd, Nat.reduceMul, Nat.reduceSub, Int.reduceLT, Int.reduceLE, Int.reduceEq, Int.reduceNe, Int.reduceToNat, Int.reduceAdd, Int.reduceSub, Int.reduceMul, Int.reduceNeg, Int.reduceBEq, Int.reduceBNe, Nat.reduceBEq]
  refine Pc_ofK s_Lines_nil fun H3 hk3 => ?_
  simp only [go_sem, Nat.reduceLT, Nat.reduceLeDiff, Nat.reduceEqDiff, Nat.reduceAdd, Nat.reduceMul, Nat.reduceSub, Int.reduceLT, Int.reduceLE, Int.reduceEq, Int.reduceNe, Int.reduceToNat, Int.reduceAdd, Int.reduceSub, Int.reduceMul, Int.reduceNeg, Int.reduceBEq, Int.reduceBNe, Nat.reduceBEq]
  exact hfin _ _ (by simp only [go_sem, Nat.reduceLT, Nat.reduceLeDiff, Nat.reduceEqDiff, Nat.reduceAdd, Nat.reduceMul, Nat.reduceSub, Int.reduceLT, Int.reduceLE, Int.reduceEq, Int.reduceNe, Int.reduceToNat, Int.reduceAdd, Int.reduceSub, Int.reduceMul, Int.reduceNeg, Int.reduceBEq, Int.reduceBNe, Nat.reduceBEq])
theorem s_TraceRecords (e k : Int) (w u : U) (a1 a : Option (Nat × Nat)) (c1 c : Option Nat) (z1 z : Nat) (sk : Int) (sd : List UInt8) (ss : Bool) (sc : UInt8) (sn : Int) (rk : Int) (rd : List UInt8) (rn : Int) (h : Heap)
    (hR : R1 h a z (u.list.map (.i .i64))) (hg : glOk h = true) (hsn : I64 sn) (hrk : I64 rk) (hrn : I64 rn) :
    ∃ v h', To M n_law19_TraceRecords [.g (recV e k w a1 c1 z1 sk sd ss sc sn rk rd rn), rV u a c z] h v h' ∧ v = .b true := by
  refine To_body' rfl F_law19_TraceRecords (Nat.le_of_ble_eq_true rfl) ?_
  rw [show c_law19_TraceRecords.body = (.seq (.reg r_law19_TraceRecords_0) (.seq (.seq (.reg r_law19_TraceRecords_1) (.cond (.tm 8) (.seq (.reg r_law19_TraceRecords_2) .ret) .skip)) (.seq (.reg r_law19_TraceRecords_3) (.seq (.reg r_law19_TraceRecords_4) (.seq (.reg r_law19_TraceRecords_5) (.seq (.draw r_law19_TraceRecords_6 [(5, [7])] []) (.seq (.reg r_law19_TraceRecords_7) (.seq (.seq (.reg r_law19_TraceRecords_8) (.blk 0 (.seq (.reg r_law19_TraceRecords_9) (.cond (.tm 35) (.reg r_law19_TraceRecords_10) (.seq (.reg r_law19_TraceRecords_11) (.cond (.tm 42) (.reg r_law19_TraceRecords_12) (.seq (.reg r_law19_TraceRecords_13) (.cond (.tm 49) (.reg r_law19_TraceRecords_14) (.seq (.reg r_law19_TraceRecords_15) (.cond (.tm 53) (.reg r_law19_TraceRecords_16) (.seq (.reg r_law19_TraceRecords_17) (.cond (.tm 57) (.seq (.reg r_law19_TraceRecords_18) (.reg r_law19_TraceRecords_19)) (.seq (.reg r_law19_TraceRecords_20) (.cond (.tm 75) (.seq (.reg r_law19_TraceRecords_21) (.seq (.reg r_law19_TraceRecords_22) (.cond (.tm 88) (.reg r_law19_TraceRecords_23) (.reg r_law19_TraceRecords_24)))) (.reg r_law19_TraceRecords_25))))))))))))))) c_recT)))))))) from rfl]
  simp only [go_sem, Nat.reduceLT, Nat.reduceLeDiff, Nat.reduceEqDiff, Nat.reduceAdd, Nat.reduceMul, Nat.reduceSub, Int.reduceLT, Int.reduceLE, Int.reduceEq, Int.reduceNe, Int.reduceToNat, Int.reduceAdd, Int.reduceSub, Int.reduceMul, Int.reduceNeg, Int.reduceBEq, Int.reduceBNe, Nat.reduceBEq, rV, recV]
  refine Pc_ofK (s_awake _ ((Keeps.app _ _).gl hg)) fun H1 hk1 => ?_
  have hr1 := hk1.2 _ _ (get_new0 _)
  have hp1 := hk1.2 _ _ (get_new _ 1)
  have hl1 := (List.getElem?_eq_some_iff.1 hp1).1
  simp only [go_sem, Nat.reduceLT, Nat.reduceLeDiff, Nat.reduceEqDiff, Nat.reduceAdd, Nat.reduceMul, Nat.reduceSub, Int.reduceLT, Int.reduceLE, Int.reduceEq, Int.reduceNe, Int.reduceToNat, Int.reduceAdd, Int.reduceSub, Int.reduceMul, Int.reduceNeg, Int.reduceBEq, Int.reduceBNe, Nat.reduceBEq, hp1]
  refine Pc_few (hR.keeps ((Keeps.app _ _).trans hk1)) fun a2 c2 z2 H2 hk2 hR2 hn2 => ?_
  have hp2 := hk2.2 _ _ hp1
  have hr2 := hk2.2 _ _ hr1
  simp only [go_sem, Nat.reduceLT, Nat.reduceLeDiff, Nat.reduceEqDiff, Nat.reduceAdd, Nat.reduceMul, Nat.reduceSub, Int.reduceLT, Int.reduceLE, Int.reduceEq, Int.reduceNe, Int.reduceToNat, Int.reduceAdd, Int.reduceSub, Int.reduceMul, Int.reduceNeg, Int.reduceBEq, Int.reduceBNe, Nat.reduceBEq, hp2]
  have hk3 : Keeps h (H2.set (h.length + 1) (.cells [.i .i64 (fewU u).kind, .i .i64 (fewU u).sq, .i .i64 (fewU u).n, .i .i64 (fewU u).ps, .i .i64 (fewU u).mr, .sl a2 (fewU u).list.length c2 z2, .b (fewU u).self, .s (fewU u).data] false none)) :=
    (((Keeps.app _ _).trans hk1).trans hk2).set (by omega) _
  have hp3 : (H2.set (h.length + 1) (.cells [.i .i64 (fewU u).kind, .i .i64 (fewU u).sq, .i .i64 (fewU u).n, .i .i64 (fewU u).ps, .i .i64 (fewU u).mr, .sl a2 (fewU u).list.length c2 z2, .b (fewU u).self, .s (fewU u).data] false none))[h.length + 1]? = _ := set_same _ (by rw [hp2]; rfl)
  have hr3 : (H2.set (h.length + 1) (.cells [.i .i64 (fewU u).kind, .i .i64 (fewU u).sq, .i .i64 (fewU u).n, .i .i64 (fewU u).ps, .i .i64 (fewU u).mr, .sl a2 (fewU u).list.length c2 z2, .b (fewU u).self, .s (fewU u).data] false none))[h.length]? = _ := (set_ne _ (by omega)).trans hr2
  have hR3 := hR2.set (i := h.length + 1) (fun off e => by have := hn2 _ _ e; omega) (.cells [.i .i64 (fewU u).kind, .i .i64 (fewU u).sq, .i .i64 (fewU u).n, .i .i64 (fewU u).ps, .i .i64 (fewU u).mr, .sl a2 (fewU u).list.length c2 z2, .b (fewU u).self, .s (fewU u).data] false none)
  generalize H2.set (h.length + 1) (.cells [.i .i64 (fewU u).kind, .i .i64 (fewU u).sq, .i .i64 (fewU u).n, .i .i64 (fewU u).ps, .i .i64 (fewU u).mr, .sl a2 (fewU u).list.length c2 z2, .b (fewU u).self, .s (fewU u).data] false none) = H3 at hk3 hp3 hr3 hR3 ⊢
  have hw := few_W u
  have hr3l := (List.getElem?_eq_some_iff.1 hr3).1
  refine Pc_own hR3 fun a4 c4 z4 H4 hk4 hR4 hn4 => ?_
  generalize fewU u = x at *
  have hp4 := hk4.2 _ _ hp3
  have hr4 := hk4.2 _ _ hr3
  have hR4x := hR3.keeps hk4
  have hra : ∀ off, a4 ≠ some (h.length, off) := fun off e => by have := hn4 _ _ e; omega
  have hm := wrap_I64 ((BitVec.ofInt 64 e &&& BitVec.ofInt 64 1).toNat : Int)
  simp only [go_sem, Nat.reduceLT, Nat.reduceLeDiff, Nat.reduceEqDiff, Nat.reduceAdd, Nat.reduceMul, Nat.reduceSub, Int.reduceLT, Int.reduceLE, Int.reduceEq, Int.reduceNe, Int.reduceToNat, Int.reduceAdd, Int.reduceSub, Int.reduceMul, Int.reduceNeg, Int.reduceBEq, Int.reduceBNe, Nat.reduceBEq, hr4, Pc_to (s_Cut sd 20 (by decide) _), Pc_to (s_Cut rd 20 (by decide) _)]
  simp only [List.set_set]
  clear hm
  generalize hmm : IntKind.i64.wrap _ = m
  have hm : I64 m := by rw [← hmm]; exact wrap_I64 _
  clear hmm
  have hk5 : Keeps h (H4.set h.length (.cells [.i .i64 m, .i .i64 k, .i .i64 x.kind, .i .i64 x.sq, .i .u32 x.n, .i .u32 x.ps, .i .u32 x.mr, .sl a4 x.list.length c4 z4, .b x.self, .s x.data, .i .i64 sk, .s (sd.take 20), .b ss, .i .u8 sc.toNat, .i .i64 sn, .i .i64 rk, .s (rd.take 20), .i .i64 rn] false none)) := ((hk3.trans hk4)).set (Nat.le_refl _) _
  have hr5 : (H4.set h.length (.cells [.i .i64 m, .i .i64 k, .i .i64 x.kind, .i .i64 x.sq, .i .u32 x.n, .i .u32 x.ps, .i .u32 x.mr, .sl a4 x.list.length c4 z4, .b x.self, .s x.data, .i .i64 sk, .s (sd.take 20), .b ss, .i .u8 sc.toNat, .i .i64 sn, .i .i64 rk, .s (rd.take 20), .i .i64 rn] false none))[h.length]? = _ := set_same _ (by rw [hr4]; rfl)
  have hp5 : (H4.set h.length (.cells [.i .i64 m, .i .i64 k, .i .i64 x.kind, .i .i64 x.sq, .i .u32 x.n, .i .u32 x.ps, .i .u32 x.mr, .sl a4 x.list.length c4 z4, .b x.self, .s x.data, .i .i64 sk, .s (sd.take 20), .b ss, .i .u8 sc.toNat, .i .i64 sn, .i .i64 rk, .s (rd.take 20), .i .i64 rn] false none))[h.length + 1]? = _ := (set_ne _ (by omega)).trans hp4
  have hR5 := hR4.set hra (.cells [.i .i64 m, .i .i64 k, .i .i64 x.kind, .i .i64 x.sq, .i .u32 x.n, .i .u32 x.ps, .i .u32 x.mr, .sl a4 x.list.length c4 z4, .b x.self, .s x.data, .i .i64 sk, .s (sd.take 20), .b ss, .i .u8 sc.toNat, .i .i64 sn, .i .i64 rk, .s (rd.take 20), .i .i64 rn] false none)
  have hR5x := hR4x.set (i := h.length) (fun off e => by have := hn2 _ _ e; omega) (.cells [.i .i64 m, .i .i64 k, .i .i64 x.kind, .i .i64 x.sq, .i .u32 x.n, .i .u32 x.ps, .i .u32 x.mr, .sl a4 x.list.length c4 z4, .b x.self, .s x.data, .i .i64 sk, .s (sd.take 20), .b ss, .i .u8 sc.toNat, .i .i64 sn, .i .i64 rk, .s (rd.take 20), .i .i64 rn] false none)
  generalize H4.set h.length (.cells [.i .i64 m, .i .i64 k, .i .i64 x.kind, .i .i64 x.sq, .i .u32 x.n, .i .u32 x.ps, .i .u32 x.mr, .sl a4 x.list.length c4 z4, .b x.self, .s x.data, .i .i64 sk, .s (sd.take 20), .b ss, .i .u8 sc.toNat, .i .i64 sn, .i .i64 rk, .s (rd.take 20), .i .i64 rn] false none) = H5 at hk5 hr5 hp5 hR5 hR5x ⊢
  refine Pc_ofK (s_Digits m hm.1 hm.2 _) fun H6 hk6 => ?_
  have hg6 := hk6.gl (hk5.gl hg)
  have hr6 := hk6.2 _ _ hr5
  have hp6 := hk6.2 _ _ hp5
  have hR6 := hR5.keeps hk6
  have hR6x := hR5x.keeps hk6
  have l1 := itoaL_le hm.1 hm.2
  have l4 := unitT_len hw
  by_cases k1 : k = 1
  · subst k1
    simp only [go_sem, Nat.reduceLT, Nat.reduceLeDiff, Nat.reduceEqDiff, Nat.reduceAdd, Nat.reduceMul, Nat.reduceSub, Int.reduceLT, Int.reduceLE, Int.reduceEq, Int.reduceNe, Int.reduceToNat, Int.reduceAdd, Int.reduceSub, Int.reduceMul, Int.reduceNeg, Int.reduceBEq, Int.reduceBNe, Nat.reduceBEq, hr6, hp6]
    refine Pc_runit hR6x hw fun H7 hk7 => ?_
    simp only [go_sem, Nat.reduceLT, Nat.reduceLeDiff, Nat.reduceEqDiff, Nat.reduceAdd, Nat.reduceMul, Nat.reduceSub, Int.reduceLT, Int.reduceLE, Int.reduceEq, Int.reduceNe, Int.reduceToNat, Int.reduceAdd, Int.reduceSub, Int.reduceMul, Int.reduceNeg, Int.reduceBEq, Int.reduceBNe, Nat.reduceBEq]
    refine Po_add (by simp; omega) ?_
    simp only [go_sem, Nat.reduceLT, Nat.reduceLeDiff, Nat.reduceEqDiff, Nat.reduceAdd, Nat.reduceMul, Nat.reduceSub, Int.reduceLT, Int.reduceLE, Int.reduceEq, Int.reduceNe, Int.reduceToNat, Int.reduceAdd, Int.reduceSub, Int.reduceMul, Int.reduceNeg, Int.reduceBEq, Int.reduceBNe, Nat.reduceBEq]
    refine Po_add (by simp; omega) ?_
    simp only [go_sem, Nat.reduceLT, Nat.reduceLeDiff, Nat.reduceEqDiff, Nat.reduceAdd, Nat.reduceMul, Nat.reduceSub, Int.reduceLT, Int.reduceLE, Int.reduceEq, Int.reduceNe, Int.reduceToNat, Int.reduceAdd, Int.reduceSub, Int.reduceMul, Int.reduceNeg, Int.reduceBEq, Int.reduceBNe, Nat.reduceBEq]
    exact rec_tail hw hm hsn hrk hrn (by simp; omega) (by simp; omega) (by simp only [go_sem, Nat.reduceLT, Nat.reduceLeDiff, Nat.reduceEqDiff, Nat.reduceAdd, Nat.reduceMul, Nat.reduceSub, Int.reduceLT, Int.reduceLE, Int.reduceEq, Int.reduceNe, Int.reduceToNat, Int.reduceAdd, Int.reduceSub, Int.reduceMul, Int.reduceNeg, Int.reduceBEq, Int.reduceBNe, Nat.reduceBEq]) (by simp only [go_sem, Nat.reduceLT, Nat.reduceLeDiff, Nat.reduceEqDiff, Nat.reduceAdd, Nat.reduceMul, Nat.reduceSub, Int.reduceLT, Int.reduceLE, Int.reduceEq, Int.reduceNe, Int.reduceToNat, Int.reduceAdd, Int.reduceSub, Int.reduceMul, Int.reduceNeg, Int.reduceBEq, Int.reduceBNe, Nat.reduceBEq]; rw [recT]; simp []) (hk7.2 _ _ hr6) (hR6.keeps hk7) (hk7.gl hg6) (fun g' H' h4 => ⟨.inr rfl, (by simp only [go_sem, Nat.reduceLT, Nat.reduceLeDiff, Nat.reduceEqDiff, Nat.reduceAdd, Nat.reduceMul, Nat.reduceSub, Int.reduceLT, Int.reduceLE, Int.reduceEq, Int.reduceNe, Int.reduceToNat, Int.reduceAdd, Int.reduceSub, Int.reduceMul, Int.reduceNeg, Int.reduceBEq, Int.reduceBNe, Nat.reduceBEq, h4]; exact ⟨_, rfl, rfl⟩)⟩)
  by_cases k2 : k = 2
  · subst k2
    simp only [go_sem, Nat.reduceLT, Nat.reduceLeDiff, Nat.reduceEqDiff, Nat.reduceAdd, Nat.reduceMul, Nat.reduceSub, Int.reduceLT, Int.reduceLE, Int.reduceEq, Int.reduceNe, Int.reduceToNat, Int.reduceAdd, Int.reduceSub, Int.reduceMul, Int.reduceNeg, Int.reduceBEq, Int.reduceBNe, Nat.reduceBEq, hr6, hp6]
    refine Pc_runit hR6x hw fun H7 hk7 => ?_
    simp only [go_sem, Nat.reduceLT, Nat.reduceLeDiff, Nat.reduceEqDiff, Nat.reduceAdd, Nat.reduceMul, Nat.reduceSub, Int.reduceLT, Int.reduceLE, Int.reduceEq, Int.reduceNe, Int.reduceToNat, Int.reduceAdd, Int.reduceSub, Int.reduceMul, Int.reduceNeg, Int.reduceBEq, Int.reduceBNe, Nat.reduceBEq]
    refine Po_add (by simp; omega) ?_
    simp only [go_sem, Nat.reduceLT, Nat.reduceLeDiff, Nat.reduceEqDiff, Nat.reduceAdd, Nat.reduceMul, Nat.reduceSub, Int.reduceLT, Int.reduceLE, Int.reduceEq, Int.reduceNe, Int.reduceToNat, Int.reduceAdd, Int.reduceSub, Int.reduceMul, Int.reduceNeg, Int.reduceBEq, Int.reduceBNe, Nat.reduceBEq]
    refine Po_add (by simp; omega) ?_
    simp only [go_sem, Nat.reduceLT, Nat.reduceLeDiff, Nat.reduceEqDiff, Nat.reduceAdd, Nat.reduceMul, Nat.reduceSub, Int.reduceLT, Int.reduceLE, Int.reduceEq, Int.reduceNe, Int.reduceToNat, Int.reduceAdd, Int.reduceSub, Int.reduceMul, Int.reduceNeg, Int.reduceBEq, Int.reduceBNe, Nat.reduceBEq]
    exact rec_tail hw hm hsn hrk hrn (by simp; omega) (by simp; omega) (by simp only [go_sem, Nat.reduceLT, Nat.reduceLeDiff, Nat.reduceEqDiff, Nat.reduceAdd, Nat.reduceMul, Nat.reduceSub, Int.reduceLT, Int.reduceLE, Int.reduceEq, Int.reduceNe, Int.reduceToNat, Int.reduceAdd, Int.reduceSub, Int.reduceMul, Int.reduceNeg, Int.reduceBEq, Int.reduceBNe, Nat.reduceBEq]) (by simp only [go_sem, Nat.reduceLT, Nat.reduceLeDiff, Nat.reduceEqDiff, Nat.reduceAdd, Nat.reduceMul, Nat.reduceSub, Int.reduceLT, Int.reduceLE, Int.reduceEq, Int.reduceNe, Int.reduceToNat, Int.reduceAdd, Int.reduceSub, Int.reduceMul, Int.reduceNeg, Int.reduceBEq, Int.reduceBNe, Nat.reduceBEq]; rw [recT]; simp []) (hk7.2 _ _ hr6) (hR6.keeps hk7) (hk7.gl hg6) (fun g' H' h4 => ⟨.inr rfl, (by simp only [go_sem, Nat.reduceLT, Nat.reduceLeDiff, Nat.reduceEqDiff, Nat.reduceAdd, Nat.reduceMul, Nat.reduceSub, Int.reduceLT, Int.reduceLE, Int.reduceEq, Int.reduceNe, Int.reduceToNat, Int.reduceAdd, Int.reduceSub, Int.reduceMul, Int.reduceNeg, Int.reduceBEq, Int.reduceBNe, Nat.reduceBEq, h4]; exact ⟨_, rfl, rfl⟩)⟩)
  by_cases k3 : k = 3
  · subst k3
    simp only [go_sem, Nat.reduceLT, Nat.reduceLeDiff, Nat.reduceEqDiff, Nat.reduceAdd, Nat.reduceMul, Nat.reduceSub, Int.reduceLT, Int.reduceLE, Int.reduceEq, Int.reduceNe, Int.reduceToNat, Int.reduceAdd, Int.reduceSub, Int.reduceMul, Int.reduceNeg, Int.reduceBEq, Int.reduceBNe, Nat.reduceBEq, hr6, hp6]
    refine Po_add (by simp; omega) ?_
    simp only [go_sem, Nat.reduceLT, Nat.reduceLeDiff, Nat.reduceEqDiff, Nat.reduceAdd, Nat.reduceMul, Nat.reduceSub, Int.reduceLT, Int.reduceLE, Int.reduceEq, Int.reduceNe, Int.reduceToNat, Int.reduceAdd, Int.reduceSub, Int.reduceMul, Int.reduceNeg, Int.reduceBEq, Int.reduceBNe, Nat.reduceBEq]
    exact rec_tail hw hm hsn hrk hrn (by simp; omega) (by simp; omega) (by simp only [go_sem, Nat.reduceLT, Nat.reduceLeDiff, Nat.reduceEqDiff, Nat.reduceAdd, Nat.reduceMul, Nat.reduceSub, Int.reduceLT, Int.reduceLE, Int.reduceEq, Int.reduceNe, Int.reduceToNat, Int.reduceAdd, Int.reduceSub, Int.reduceMul, Int.reduceNeg, Int.reduceBEq, Int.reduceBNe, Nat.reduceBEq]) (by simp only [go_sem, Nat.reduceLT, Nat.reduceLeDiff, Nat.reduceEqDiff, Nat.reduceAdd, Nat.reduceMul, Nat.reduceSub, Int.reduceLT, Int.reduceLE, Int.reduceEq, Int.reduceNe, Int.reduceToNat, Int.reduceAdd, Int.reduceSub, Int.reduceMul, Int.reduceNeg, Int.reduceBEq, Int.reduceBNe, Nat.reduceBEq]; rw [recT]; simp []) hr6 hR6 hg6 (fun g' H' h4 => ⟨.inr rfl, (by simp only [go_sem, Nat.reduceLT, Nat.reduceLeDiff, Nat.reduceEqDiff, Nat.reduceAdd, Nat.reduceMul, Nat.reduceSub, Int.reduceLT, Int.reduceLE, Int.reduceEq, Int.reduceNe, Int.reduceToNat, Int.reduceAdd, Int.reduceSub, Int.reduceMul, Int.reduceNeg, Int.reduceBEq, Int.reduceBNe, Nat.reduceBEq, h4]; exact ⟨_, rfl, rfl⟩)⟩)
  by_cases k4 : k = 4
  · subst k4
    simp only [go_sem, Nat.reduceLT, Nat.reduceLeDiff, Nat.reduceEqDiff, Nat.reduceAdd, Nat.reduceMul, Nat.reduceSub, Int.reduceLT, Int.reduceLE, Int.reduceEq, Int.reduceNe, Int.reduceToNat, Int.reduceAdd, Int.reduceSub, Int.reduceMul, Int.reduceNeg, Int.reduceBEq, Int.reduceBNe, Nat.reduceBEq, hr6, hp6]
    refine Po_add (by simp; omega) ?_
    simp only [go_sem, Nat.reduceLT, Nat.reduceLeDiff, Nat.reduceEqDiff, Nat.reduceAdd, Nat.reduceMul, Nat.reduceSub, Int.reduceLT, Int.reduceLE, Int.reduceEq, Int.reduceNe, Int.reduceToNat, Int.reduceAdd, Int.reduceSub, Int.reduceMul, Int.reduceNeg, Int.reduceBEq, Int.reduceBNe, Nat.reduceBEq]
    exact rec_tail hw hm hsn hrk hrn (by simp; omega) (by simp; omega) (by simp only [go_sem, Nat.reduceLT, Nat.reduceLeDiff, Nat.reduceEqDiff, Nat.reduceAdd, Nat.reduceMul, Nat.reduceSub, Int.reduceLT, Int.reduceLE, Int.reduceEq, Int.reduceNe, Int.reduceToNat, Int.reduceAdd, Int.reduceSub, Int.reduceMul, Int.reduceNeg, Int.reduceBEq, Int.reduceBNe, Nat.reduceBEq]) (by simp only [go_sem, Nat.reduceLT, Nat.reduceLeDiff, Nat.reduceEqDiff, Nat.reduceAdd, Nat.reduceMul, Nat.reduceSub, Int.reduceLT, Int.reduceLE, Int.reduceEq, Int.reduceNe, Int.reduceToNat, Int.reduceAdd, Int.reduceSub, Int.reduceMul, Int.reduceNeg, Int.reduceBEq, Int.reduceBNe, Nat.reduceBEq]; rw [recT]; simp []) hr6 hR6 hg6 (fun g' H' h4 => ⟨.inr rfl, (by simp only [go_sem, Nat.reduceLT, Nat.reduceLeDiff, Nat.reduceEqDiff, Nat.reduceAdd, Nat.reduceMul, Nat.reduceSub, Int.reduceLT, Int.reduceLE, Int.reduceEq, Int.reduceNe, Int.reduceToNat, Int.reduceAdd, Int.reduceSub, Int.reduceMul, Int.reduceNeg, Int.reduceBEq, Int.reduceBNe, Nat.reduceBEq, h4]; exact ⟨_, rfl, rfl⟩)⟩)
  by_cases k5 : k = 5
  · subst k5
    simp only [go_sem, Nat.reduceLT, Nat.reduceLeDiff, Nat.reduceEqDiff, Nat.reduceAdd, Nat.reduceMul, Nat.reduceSub, Int.reduceLT, Int.reduceLE, Int.reduceEq, Int.reduceNe, Int.reduceToNat, Int.reduceAdd, Int.reduceSub, Int.reduceMul, Int.reduceNeg, Int.reduceBEq, Int.reduceBNe, Nat.reduceBEq, hr6, hp6]
    have l5 := sigT_len sk (sd.take 20) ss sc sn (by simp; omega) hsn
    refine Pc_ofK (s_rText sk (sd.take 20) ss sc sn _ (by simp; omega) hsn.1 hsn.2) fun H7 hk7 => ?_
    simp only [go_sem, Nat.reduceLT, Nat.reduceLeDiff, Nat.reduceEqDiff, Nat.reduceAdd, Nat.reduceMul, Nat.reduceSub, Int.reduceLT, Int.reduceLE, Int.reduceEq, Int.reduceNe, Int.reduceToNat, Int.reduceAdd, Int.reduceSub, Int.reduceMul, Int.reduceNeg, Int.reduceBEq, Int.reduceBNe, Nat.reduceBEq]
    refine Po_add (by simp; omega) ?_
    simp only [go_sem, Nat.reduceLT, Nat.reduceLeDiff, Nat.reduceEqDiff, Nat.reduceAdd, Nat.reduceMul, Nat.reduceSub, Int.reduceLT, Int.reduceLE, Int.reduceEq, Int.reduceNe, Int.reduceToNat, Int.reduceAdd, Int.reduceSub, Int.reduceMul, Int.reduceNeg, Int.reduceBEq, Int.reduceBNe, Nat.reduceBEq]
    refine Po_add (by simp; omega) ?_
    simp only [go_sem, Nat.reduceLT, Nat.reduceLeDiff, Nat.reduceEqDiff, Nat.reduceAdd, Nat.reduceMul, Nat.reduceSub, Int.reduceLT, Int.reduceLE, Int.reduceEq, Int.reduceNe, Int.reduceToNat, Int.reduceAdd, Int.reduceSub, Int.reduceMul, Int.reduceNeg, Int.reduceBEq, Int.reduceBNe, Nat.reduceBEq]
    exact rec_tail hw hm hsn hrk hrn (by simp; omega) (by simp; omega) (by simp only [go_sem, Nat.reduceLT, Nat.reduceLeDiff, Nat.reduceEqDiff, Nat.reduceAdd, Nat.reduceMul, Nat.reduceSub, Int.reduceLT, Int.reduceLE, Int.reduceEq, Int.reduceNe, Int.reduceToNat, Int.reduceAdd, Int.reduceSub, Int.reduceMul, Int.reduceNeg, Int.reduceBEq, Int.reduceBNe, Nat.reduceBEq]) (by simp only [go_sem, Nat.reduceLT, Nat.reduceLeDiff, Nat.reduceEqDiff, Nat.reduceAdd, Nat.reduceMul, Nat.reduceSub, Int.reduceLT, Int.reduceLE, Int.reduceEq, Int.reduceNe, Int.reduceToNat, Int.reduceAdd, Int.reduceSub, Int.reduceMul, Int.reduceNeg, Int.reduceBEq, Int.reduceBNe, Nat.reduceBEq]; rw [recT]; simp []) (hk7.2 _ _ ((Keeps.app _ _).2 _ _ hr6)) ((hR6.keeps (Keeps.app _ _)).keeps hk7) (hk7.gl ((Keeps.app _ _).gl hg6)) (fun g' H' h4 => ⟨.inr rfl, (by simp only [go_sem, Nat.reduceLT, Nat.reduceLeDiff, Nat.reduceEqDiff, Nat.reduceAdd, Nat.reduceMul, Nat.reduceSub, Int.reduceLT, Int.reduceLE, Int.reduceEq, Int.reduceNe, Int.reduceToNat, Int.reduceAdd, Int.reduceSub, Int.reduceMul, Int.reduceNeg, Int.reduceBEq, Int.reduceBNe, Nat.reduceBEq, h4]; exact ⟨_, rfl, rfl⟩)⟩)
  by_cases k6 : k = 6
  · subst k6
    simp only [go_sem, Nat.reduceLT, Nat.reduceLeDiff, Nat.reduceEqDiff, Nat.reduceAdd, Nat.reduceMul, Nat.reduceSub, Int.reduceLT, Int.reduceLE, Int.reduceEq, Int.reduceNe, Int.reduceToNat, Int.reduceAdd, Int.reduceSub, Int.reduceMul, Int.reduceNeg, Int.reduceBEq, Int.reduceBNe, Nat.reduceBEq, hr6, hp6]
    have l2 := itoaL_le hrk.1 hrk.2
    have l3 := itoaL_le hrn.1 hrn.2
    have l6 := hexT_len (rd.take 20)
    have l7 : (rd.take 20).length ≤ 20 := by simp; omega
    refine Pc_ofK (s_Digits rk hrk.1 hrk.2 _) fun H7 hk7 => ?_
    have hr7 := hk7.2 _ _ hr6
    simp only [go_sem, Nat.reduceLT, Nat.reduceLeDiff, Nat.reduceEqDiff, Nat.reduceAdd, Nat.reduceMul, Nat.reduceSub, Int.reduceLT, Int.reduceLE, Int.reduceEq, Int.reduceNe, Int.reduceToNat, Int.reduceAdd, Int.reduceSub, Int.reduceMul, Int.reduceNeg, Int.reduceBEq, Int.reduceBNe, Nat.reduceBEq]
    refine Po_add (by simp; omega) ?_
    simp only [go_sem, Nat.reduceLT, Nat.reduceLeDiff, Nat.reduceEqDiff, Nat.reduceAdd, Nat.reduceMul, Nat.reduceSub, Int.reduceLT, Int.reduceLE, Int.reduceEq, Int.reduceNe, Int.reduceToNat, Int.reduceAdd, Int.reduceSub, Int.reduceMul, Int.reduceNeg, Int.reduceBEq, Int.reduceBNe, Nat.reduceBEq]
    refine Po_add (by simp; omega) ?_
    simp only [go_sem, Nat.reduceLT, Nat.reduceLeDiff, Nat.reduceEqDiff, Nat.reduceAdd, Nat.reduceMul, Nat.reduceSub, Int.reduceLT, Int.reduceLE, Int.reduceEq, Int.reduceNe, Int.reduceToNat, Int.reduceAdd, Int.reduceSub, Int.reduceMul, Int.reduceNeg, Int.reduceBEq, Int.reduceBNe, Nat.reduceBEq]
    refine Po_add (by simp; omega) ?_
    by_cases kr : rk = 10
    · subst kr
      simp only [go_sem, Nat.reduceLT, Nat.reduceLeDiff, Nat.reduceEqDiff, Nat.reduceAdd, Nat.reduceMul, Nat.reduceSub, Int.reduceLT, Int.reduceLE, Int.reduceEq, Int.reduceNe, Int.reduceToNat, Int.reduceAdd, Int.reduceSub, Int.reduceMul, Int.reduceNeg, Int.reduceBEq, Int.reduceBNe, Nat.reduceBEq, hr7]
      refine Pc_ofK (s_Digits rn hrn.1 hrn.2 _) fun H8 hk8 => ?_
      simp only [go_sem, Nat.reduceLT, Nat.reduceLeDiff, Nat.reduceEqDiff, Nat.reduceAdd, Nat.reduceMul, Nat.reduceSub, Int.reduceLT, Int.reduceLE, Int.reduceEq, Int.reduceNe, Int.reduceToNat, Int.reduceAdd, Int.reduceSub, Int.reduceMul, Int.reduceNeg, Int.reduceBEq, Int.reduceBNe, Nat.reduceBEq]
      refine Po_add (by simp; omega) ?_
      simp only [go_sem, Nat.reduceLT, Nat.reduceLeDiff, Nat.reduceEqDiff, Nat.reduceAdd, Nat.reduceMul, Nat.reduceSub, Int.reduceLT, Int.reduceLE, Int.reduceEq, Int.reduceNe, Int.reduceToNat, Int.reduceAdd, Int.reduceSub, Int.reduceMul, Int.reduceNeg, Int.reduceBEq, Int.reduceBNe, Nat.reduceBEq]
      exact rec_tail hw hm hsn hrk hrn (by simp; omega) (by simp; omega) (by simp only [go_sem, Nat.reduceLT, Nat.reduceLeDiff, Nat.reduceEqDiff, Nat.reduceAdd, Nat.reduceMul, Nat.reduceSub, Int.reduceLT, Int.reduceLE, Int.reduceEq, Int.reduceNe, Int.reduceToNat, Int.reduceAdd, Int.reduceSub, Int.reduceMul, Int.reduceNeg, Int.reduceBEq, Int.reduceBNe, Nat.reduceBEq]) (by simp only [go_sem, Nat.reduceLT, Nat.reduceLeDiff, Nat.reduceEqDiff, Nat.reduceAdd, Nat.reduceMul, Nat.reduceSub, Int.reduceLT, Int.reduceLE, Int.reduceEq, Int.reduceNe, Int.reduceToNat, Int.reduceAdd, Int.reduceSub, Int.reduceMul, Int.reduceNeg, Int.reduceBEq, Int.reduceBNe, Nat.reduceBEq]; rw [recT]; simp) (hk8.2 _ _ hr7) ((hR6.keeps hk7).keeps hk8) (hk8.gl (hk7.gl hg6)) (fun g' H' h4 => ⟨.inr rfl, (by simp only [go_sem, Nat.reduceLT, Nat.reduceLeDiff, Nat.reduceEqDiff, Nat.reduceAdd, Nat.reduceMul, Nat.reduceSub, Int.reduceLT, Int.reduceLE, Int.reduceEq, Int.reduceNe, Int.reduceToNat, Int.reduceAdd, Int.reduceSub, Int.reduceMul, Int.reduceNeg, Int.reduceBEq, Int.reduceBNe, Nat.reduceBEq, h4]; exact ⟨_, rfl, rfl⟩)⟩)
    · simp only [go_sem, Nat.reduceLT, Nat.reduceLeDiff, Nat.reduceEqDiff, Nat.reduceAdd, Nat.reduceMul, Nat.reduceSub, Int.reduceLT, Int.reduceLE, Int.reduceEq, Int.reduceNe, Int.reduceToNat, Int.reduceAdd, Int.reduceSub, Int.reduceMul, Int.reduceNeg, Int.reduceBEq, Int.reduceBNe, Nat.reduceBEq, hr7, kr]
      refine Pc_ofK (s_rHex (rd.take 20) _ (by omega)) fun H8 hk8 => ?_
      simp only [go_sem, Nat.reduceLT, Nat.reduceLeDiff, Nat.reduceEqDiff, Nat.reduceAdd, Nat.reduceMul, Nat.reduceSub, Int.reduceLT, Int.reduceLE, Int.reduceEq, Int.reduceNe, Int.reduceToNat, Int.reduceAdd, Int.reduceSub, Int.reduceMul, Int.reduceNeg, Int.reduceBEq, Int.reduceBNe, Nat.reduceBEq]
      refine Po_add (by simp; omega) ?_
      simp only [go_sem, Nat.reduceLT, Nat.reduceLeDiff, Nat.reduceEqDiff, Nat.reduceAdd, Nat.reduceMul, Nat.reduceSub, Int.reduceLT, Int.reduceLE, Int.reduceEq, Int.reduceNe, Int.reduceToNat, Int.reduceAdd, Int.reduceSub, Int.reduceMul, Int.reduceNeg, Int.reduceBEq, Int.reduceBNe, Nat.reduceBEq]
      exact rec_tail hw hm hsn hrk hrn (by simp; omega) (by simp; omega) (by simp only [go_sem, Nat.reduceLT, Nat.reduceLeDiff, Nat.reduceEqDiff, Nat.reduceAdd, Nat.reduceMul, Nat.reduceSub, Int.reduceLT, Int.reduceLE, Int.reduceEq, Int.reduceNe, Int.reduceToNat, Int.reduceAdd, Int.reduceSub, Int.reduceMul, Int.reduceNeg, Int.reduceBEq, Int.reduceBNe, Nat.reduceBEq]) (by simp only [go_sem, Nat.reduceLT, Nat.reduceLeDiff, Nat.reduceEqDiff, Nat.reduceAdd, Nat.reduceMul, Nat.reduceSub, Int.reduceLT, Int.reduceLE, Int.reduceEq, Int.reduceNe, Int.reduceToNat, Int.reduceAdd, Int.reduceSub, Int.reduceMul, Int.reduceNeg, Int.reduceBEq, Int.reduceBNe, Nat.reduceBEq]; rw [recT]; simp [kr]) (hk8.2 _ _ hr7) ((hR6.keeps hk7).keeps hk8) (hk8.gl (hk7.gl hg6)) (fun g' H' h4 => ⟨.inr rfl, (by simp only [go_sem, Nat.reduceLT, Nat.reduceLeDiff, Nat.reduceEqDiff, Nat.reduceAdd, Nat.reduceMul, Nat.reduceSub, Int.reduceLT, Int.reduceLE, Int.reduceEq, Int.reduceNe, Int.reduceToNat, Int.reduceAdd, Int.reduceSub, Int.reduceMul, Int.reduceNeg, Int.reduceBEq, Int.reduceBNe, Nat.reduceBEq, h4]; exact ⟨_, rfl, rfl⟩)⟩)
  simp only [go_sem, Nat.reduceLT, Nat.reduceLeDiff, Nat.reduceEqDiff, Nat.reduceAdd, Nat.reduceMul, Nat.reduceSub, Int.reduceLT, Int.reduceLE, Int.reduceEq, Int.reduceNe, Int.reduceToNat, Int.reduceAdd, Int.reduceSub, Int.reduceMul, Int.reduceNeg, Int.reduceBEq, Int.reduceBNe, Nat.reduceBEq, k1, k2, k3, k4, k5, k6, hr6, hp6]
  exact rec_tail hw hm hsn hrk hrn (by simp; omega) (by simp; omega) (by simp only [go_sem, Nat.reduceLT, Nat.reduceLeDiff, Nat.reduceEqDiff, Nat.reduceAdd, Nat.reduceMul, Nat.reduceSub, Int.reduceLT, Int.reduceLE, Int.reduceEq, Int.reduceNe, Int.reduceToNat, Int.reduceAdd, Int.reduceSub, Int.reduceMul, Int.reduceNeg, Int.reduceBEq, Int.reduceBNe, Nat.reduceBEq]) (by simp only [go_sem, Nat.reduceLT, Nat.reduceLeDiff, Nat.reduceEqDiff, Nat.reduceAdd, Nat.reduceMul, Nat.reduceSub, Int.reduceLT, Int.reduceLE, Int.reduceEq, Int.reduceNe, Int.reduceToNat, Int.reduceAdd, Int.reduceSub, Int.reduceMul, Int.reduceNeg, Int.reduceBEq, Int.reduceBNe, Nat.reduceBEq]; rw [recT]; simp [k1, k2, k3, k4, k5, k6]) hr6 hR6 hg6 (fun g' H' h4 => ⟨.inr rfl, (by simp only [go_sem, Nat.reduceLT, Nat.reduceLeDiff, Nat.reduceEqDiff, Nat.reduceAdd, Nat.reduceMul, Nat.reduceSub, Int.reduceLT, Int.reduceLE, Int.reduceEq, Int.reduceNe, Int.reduceToNat, Int.reduceAdd, Int.reduceSub, Int.reduceMul, Int.reduceNeg, Int.reduceBEq, Int.reduceBNe, Nat.reduceBEq, h4]; exact ⟨_, rfl, rfl⟩)⟩)
end Am
end Go.Proofs.YtjjkjfdojifchaaGreatDoor
