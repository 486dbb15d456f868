/-
  WHAT THE FUNCTIONS COME TO, part 17: a record's line, the lines.
  Conditions: none.
-/
import Derived.Test.YtjjkjfdojifchaaDoorSp16
set_option linter.unusedVariables false
set_option linter.unusedSimpArgs false
namespace Go.Proofs.YtjjkjfdojifchaaDoor
namespace Am
/-- A unit's text, or none. -/
def unitT (u : U) : List UInt8 := if okU u then txt u else []
/-- A unit of which one may speak. -/
structure Wd (u : U) : Prop where
  n : W32 u.n
  ps : W32 u.ps
  mr : W32 u.mr
  list : ∀ x ∈ u.list, W32 x
  len : u.list.length ≤ 1000
  data : u.data.length ≤ 100000
theorem flat_len {u : U} (hs : Sized u) : ∀ (l : List UInt8), (l.flatMap (fieldT u)).length ≤ 300000 * l.length := by
  intro l
  induction l with
  | nil => simp
  | cons a l ih =>
    have := fieldT_len hs a
    simp only [List.flatMap_cons, List.length_append, List.length_cons]
    omega
theorem unitT_len {u : U} (hw : Wd u) : (unitT u).length ≤ 4000000 := by
  unfold unitT
  split
  · rename_i ok
    have := flat_len (u := u) ⟨⟨ok.2.2.2.2.2.2.2.1, ok.2.2.2.2.2.2.2.2.1⟩, hw.n, hw.ps, hw.mr, hw.list, hw.len, hw.data⟩ (hasL u.kind)
    have h2 := (hasL_ok u.kind).2
    have h3 := nameL_len u.kind
    simp only [txt, List.length_append]
    omega
  · simp
theorem s_UnitT (u : U) (h : Heap) (a : Option (Nat × Nat)) (c : Option Nat) (z : Nat) (hR : R1 h a z (u.list.map (.i .u32))) (hw : Wd u) (hg : glOk h = true) :
    ∃ v h', To M n_trace_Unit [uV u a c z] h v h' ∧ v = .s (unitT u) ∧ Keeps h h' := s_Unit u h a c z hR hw.n hw.ps hw.mr hw.list hw.len hw.data hg
/-- A record's line. -/
def recT (e k : Int) (u : U) (sk : Int) (sd : List UInt8) (ss : Bool) (sc : UInt8) (sn : Int) (rk : Int) (rd : List UInt8) (rn : Int) : List UInt8 :=
  if k = 1 then itoaL e ++ [32, 62, 32] ++ unitT u else if k = 2 then itoaL e ++ [32, 60, 32] ++ unitT u else if k = 3 then itoaL e ++ [32, 35] else if k = 4 then itoaL e ++ [32, 120] else
  if k = 5 then itoaL e ++ [32, 58, 32] ++ sigT sk sd ss sc sn else if k = 6 then itoaL e ++ [32, 63, 32] ++ itoaL rk ++ [32] ++ (if rk = 10 then itoaL rn else hexT rd) else []
def recV (e k : Int) (u : U) (a : Option (Nat × Nat)) (c : Option Nat) (z : Nat) (sk : Int) (sd : List UInt8) (ss : Bool) (sc : UInt8) (sn : Int) (rk : Int) (rd : List UInt8) (rn : Int) : List V :=
  [.i .i64 e, .i .i64 k, .i .i64 u.kind, .i .i64 u.sq, .i .u32 u.n, .i .u32 u.ps, .i .u32 u.mr, .sl a u.list.length c z, .b u.self, .s u.data, .i .i64 sk, .s sd, .b ss, .i .u8 sc.toNat, .i .i64 sn, .i .i64 rk, .s rd, .i .i64 rn]
def I64 (n : Int) : Prop := -9223372036854775808 ≤ n ∧ n ≤ 9223372036854775807
theorem sigT_len (k : Int) (d : List UInt8) (self : Bool) (code : UInt8) (n : Int) (hd : d.length ≤ 1000) (hn : I64 n) : (sigT k d self code n).length ≤ 10000 := by
  have h1 := sigN_le k
  have h2 := hexT_len d
  have h3 := itoaL_le hn.1 hn.2
  unfold sigT
  repeat' split
  all_goals try simp only [List.length_append, List.length_cons, List.length_nil]
  all_goals omega
set_option maxHeartbeats 2000000 in
theorem s_Record (e k : Int) (u : U) (a : Option (Nat × Nat)) (c : Option Nat) (z : Nat) (sk : Int) (sd : List UInt8) (ss : Bool) (sc : UInt8) (sn : Int) (rk : Int) (rd : List UInt8) (rn : Int) (h : Heap)
    (hR : R1 h a z (u.list.map (.i .u32))) (hw : Wd u) (hg : glOk h = true) (he : I64 e) (hsn : I64 sn) (hrk : I64 rk) (hrn : I64 rn) (hsd : sd.length ≤ 1000) (hrd : rd.length ≤ 1000) :
    ∃ v h', To M n_trace_Record [.g (recV e k u a c z sk sd ss sc sn rk rd rn)] h v h' ∧ v = .s (recT e k u sk sd ss sc sn rk rd rn) ∧ Keeps h h' := by
  have hgx := fun os => (Keeps.app h os).gl hg
  have l1 := itoaL_le he.1 he.2
  have l2 := itoaL_le hrk.1 hrk.2
  have l3 := itoaL_le hrn.1 hrn.2
  have l4 := unitT_len hw
  have l5 := sigT_len sk sd ss sc sn hsd hsn
  have l6 := hexT_len rd
  refine To_body' rfl F_trace_Record (Nat.le_of_ble_eq_true rfl) ?_
  simp only [go_sem, Nat.reduceLT, Nat.reduceLeDiff, Nat.reduceEqDiff, Nat.reduceAdd, Nat.reduceMul, Nat.reduceSub, Int.reduceLT, Int.reduceLE, Int.reduceEq, Int.reduceNe, Int.reduceToNat, Int.reduceAdd, Int.reduceSub, Int.reduceMul, Int.reduceNeg, Int.reduceBEq, Int.reduceBNe, Nat.reduceBEq, b_trace_Record, recV, Pc_to (s_Itoa e _ (hgx _) he.1 he.2)]
  have hU : ∀ os, ∃ v h', To M n_trace_Unit [.g [.i .i64 u.kind, .i .i64 u.sq, .i .u32 u.n, .i .u32 u.ps, .i .u32 u.mr, .sl a u.list.length c z, .b u.self, .s u.data]] (h ++ os) v h' ∧ v = .s (unitT u) ∧ Keeps (h ++ os) h' := fun os => s_UnitT u (h ++ os) a c z (hR.keeps (Keeps.app _ _)) hw (hgx os)
  by_cases k1 : k = 1
  · simp only [go_sem, Nat.reduceLT, Nat.reduceLeDiff, Nat.reduceEqDiff, Nat.reduceAdd, Nat.reduceMul, Nat.reduceSub, Int.reduceLT, Int.reduceLE, Int.reduceEq, Int.reduceNe, Int.reduceToNat, Int.reduceAdd, Int.reduceSub, Int.reduceMul, Int.reduceNeg, Int.reduceBEq, Int.reduceBNe, Nat.reduceBEq, k1]
    refine Po_add (by simp; omega) ?_
    simp only [go_sem, Nat.reduceLT, Nat.reduceLeDiff, Nat.reduceEqDiff, Nat.reduceAdd, Nat.reduceMul, Nat.reduceSub, Int.reduceLT, Int.reduceLE, Int.reduceEq, Int.reduceNe, Int.reduceToNat, Int.reduceAdd, Int.reduceSub, Int.reduceMul, Int.reduceNeg, Int.reduceBEq, Int.reduceBNe, Nat.reduceBEq]
    refine Pc_ofK (hU _) fun H1 hk1 => ?_
    simp only [go_sem, Nat.reduceLT, Nat.reduceLeDiff, Nat.reduceEqDiff, Nat.reduceAdd, Nat.reduceMul, Nat.reduceSub, Int.reduceLT, Int.reduceLE, Int.reduceEq, Int.reduceNe, Int.reduceToNat, Int.reduceAdd, Int.reduceSub, Int.reduceMul, Int.reduceNeg, Int.reduceBEq, Int.reduceBNe, Nat.reduceBEq]
    refine Po_add (by simp; omega) ?_
    simp only [go_sem, Nat.reduceLT, Nat.reduceLeDiff, Nat.reduceEqDiff, Nat.reduceAdd, Nat.reduceMul, Nat.reduceSub, Int.reduceLT, Int.reduceLE, Int.reduceEq, Int.reduceNe, Int.reduceToNat, Int.reduceAdd, Int.reduceSub, Int.reduceMul, Int.reduceNeg, Int.reduceBEq, Int.reduceBNe, Nat.reduceBEq]
    exact ⟨_, rfl, by simp [recT, k1], (Keeps.app _ _).trans (k1 ▸ hk1)⟩
  by_cases k2 : k = 2
  · simp only [go_sem, Nat.reduceLT, Nat.reduceLeDiff, Nat.reduceEqDiff, Nat.reduceAdd, Nat.reduceMul, Nat.reduceSub, Int.reduceLT, Int.reduceLE, Int.reduceEq, Int.reduceNe, Int.reduceToNat, Int.reduceAdd, Int.reduceSub, Int.reduceMul, Int.reduceNeg, Int.reduceBEq, Int.reduceBNe, Nat.reduceBEq, k1, k2]
    refine Po_add (by simp; omega) ?_
    simp only [go_sem, Nat.reduceLT, Nat.reduceLeDiff, Nat.reduceEqDiff, Nat.reduceAdd, Nat.reduceMul, Nat.reduceSub, Int.reduceLT, Int.reduceLE, Int.reduceEq, Int.reduceNe, Int.reduceToNat, Int.reduceAdd, Int.reduceSub, Int.reduceMul, Int.reduceNeg, Int.reduceBEq, Int.reduceBNe, Nat.reduceBEq]
    refine Pc_ofK (hU _) fun H1 hk1 => ?_
    simp only [go_sem, Nat.reduceLT, Nat.reduceLeDiff, Nat.reduceEqDiff, Nat.reduceAdd, Nat.reduceMul, Nat.reduceSub, Int.reduceLT, Int.reduceLE, Int.reduceEq, Int.reduceNe, Int.reduceToNat, Int.reduceAdd, Int.reduceSub, Int.reduceMul, Int.reduceNeg, Int.reduceBEq, Int.reduceBNe, Nat.reduceBEq]
    refine Po_add (by simp; omega) ?_
    simp only [go_sem, Nat.reduceLT, Nat.reduceLeDiff, Nat.reduceEqDiff, Nat.reduceAdd, Nat.reduceMul, Nat.reduceSub, Int.reduceLT, Int.reduceLE, Int.reduceEq, Int.reduceNe, Int.reduceToNat, Int.reduceAdd, Int.reduceSub, Int.reduceMul, Int.reduceNeg, Int.reduceBEq, Int.reduceBNe, Nat.reduceBEq]
    exact ⟨_, rfl, by simp [recT, k2], (Keeps.app _ _).trans hk1⟩
  by_cases k3 : k = 3
  · simp only [go_sem, Nat.reduceLT, Nat.reduceLeDiff, Nat.reduceEqDiff, Nat.reduceAdd, Nat.reduceMul, Nat.reduceSub, Int.reduceLT, Int.reduceLE, Int.reduceEq, Int.reduceNe, Int.reduceToNat, Int.reduceAdd, Int.reduceSub, Int.reduceMul, Int.reduceNeg, Int.reduceBEq, Int.reduceBNe, Nat.reduceBEq, k1, k2, k3]
    refine Po_add (by simp; omega) ?_
    simp only [go_sem, Nat.reduceLT, Nat.reduceLeDiff, Nat.reduceEqDiff, Nat.reduceAdd, Nat.reduceMul, Nat.reduceSub, Int.reduceLT, Int.reduceLE, Int.reduceEq, Int.reduceNe, Int.reduceToNat, Int.reduceAdd, Int.reduceSub, Int.reduceMul, Int.reduceNeg, Int.reduceBEq, Int.reduceBNe, Nat.reduceBEq]
    exact ⟨_, rfl, by simp [recT, k3], Keeps.app _ _⟩
  by_cases k4 : k = 4
  · simp only [go_sem, Nat.reduceLT, Nat.reduceLeDiff, Nat.reduceEqDiff, Nat.reduceAdd, Nat.reduceMul, Nat.reduceSub, Int.reduceLT, Int.reduceLE, Int.reduceEq, Int.reduceNe, Int.reduceToNat, Int.reduceAdd, Int.reduceSub, Int.reduceMul, Int.reduceNeg, Int.reduceBEq, Int.reduceBNe, Nat.reduceBEq, k1, k2, k3, k4]
    refine Po_add (by simp; omega) ?_
    simp only [go_sem, Nat.reduceLT, Nat.reduceLeDiff, Nat.reduceEqDiff, Nat.reduceAdd, Nat.reduceMul, Nat.reduceSub, Int.reduceLT, Int.reduceLE, Int.reduceEq, Int.reduceNe, Int.reduceToNat, Int.reduceAdd, Int.reduceSub, Int.reduceMul, Int.reduceNeg, Int.reduceBEq, Int.reduceBNe, Nat.reduceBEq]
    exact ⟨_, rfl, by simp [recT, k4], Keeps.app _ _⟩
  by_cases k5 : k = 5
  · simp only [go_sem, Nat.reduceLT, Nat.reduceLeDiff, Nat.reduceEqDiff, Nat.reduceAdd, Nat.reduceMul, Nat.reduceSub, Int.reduceLT, Int.reduceLE, Int.reduceEq, Int.reduceNe, Int.reduceToNat, Int.reduceAdd, Int.reduceSub, Int.reduceMul, Int.reduceNeg, Int.reduceBEq, Int.reduceBNe, Nat.reduceBEq, k1, k2, k3, k4, k5]
    refine Po_add (by simp; omega) ?_
    simp only [go_sem, Nat.reduceLT, Nat.reduceLeDiff, Nat.reduceEqDiff, Nat.reduceAdd, Nat.reduceMul, Nat.reduceSub, Int.reduceLT, Int.reduceLE, Int.reduceEq, Int.reduceNe, Int.reduceToNat, Int.reduceAdd, Int.reduceSub, Int.reduceMul, Int.reduceNeg, Int.reduceBEq, Int.reduceBNe, Nat.reduceBEq]
    refine Pc_ofK (s_SText sk sd ss sc sn _ (hgx _) hsd hsn.1 hsn.2) fun H1 hk1 => ?_
    simp only [go_sem, Nat.reduceLT, Nat.reduceLeDiff, Nat.reduceEqDiff, Nat.reduceAdd, Nat.reduceMul, Nat.reduceSub, Int.reduceLT, Int.reduceLE, Int.reduceEq, Int.reduceNe, Int.reduceToNat, Int.reduceAdd, Int.reduceSub, Int.reduceMul, Int.reduceNeg, Int.reduceBEq, Int.reduceBNe, Nat.reduceBEq]
    refine Po_add (by simp; omega) ?_
    simp only [go_sem, Nat.reduceLT, Nat.reduceLeDiff, Nat.reduceEqDiff, Nat.reduceAdd, Nat.reduceMul, Nat.reduceSub, Int.reduceLT, Int.reduceLE, Int.reduceEq, Int.reduceNe, Int.reduceToNat, Int.reduceAdd, Int.reduceSub, Int.reduceMul, Int.reduceNeg, Int.reduceBEq, Int.reduceBNe, Nat.reduceBEq]
    exact ⟨_, rfl, by simp [recT, k5], (Keeps.app _ _).trans hk1⟩
  by_cases k6 : k = 6
  · simp only [go_sem, Nat.reduceLT, Nat.reduceLeDiff, Nat.reduceEqDiff, Nat.reduceAdd, Nat.reduceMul, Nat.reduceSub, Int.reduceLT, Int.reduceLE, Int.reduceEq, Int.reduceNe, Int.reduceToNat, Int.reduceAdd, Int.reduceSub, Int.reduceMul, Int.reduceNeg, Int.reduceBEq, Int.reduceBNe, Nat.reduceBEq, k1, k2, k3, k4, k5, k6]
    refine Pc_ofK (s_Hex rd _ (by omega)) fun H1 hk1 => ?_
    have hb := hk1.2 h.length _ (get_new0 _)
    have hg1 := hk1.gl (hgx _)
    by_cases kr : rk = 10
    · subst kr
      simp only [go_sem, Nat.reduceLT, Nat.reduceLeDiff, Nat.reduceEqDiff, Nat.reduceAdd, Nat.reduceMul, Nat.reduceSub, Int.reduceLT, Int.reduceLE, Int.reduceEq, Int.reduceNe, Int.reduceToNat, Int.reduceAdd, Int.reduceSub, Int.reduceMul, Int.reduceNeg, Int.reduceBEq, Int.reduceBNe, Nat.reduceBEq, hb, Pc_to (s_Itoa rn _ hg1 hrn.1 hrn.2)]
      refine Po_add (by simp; omega) ?_
      simp only [go_sem, Nat.reduceLT, Nat.reduceLeDiff, Nat.reduceEqDiff, Nat.reduceAdd, Nat.reduceMul, Nat.reduceSub, Int.reduceLT, Int.reduceLE, Int.reduceEq, Int.reduceNe, Int.reduceToNat, Int.reduceAdd, Int.reduceSub, Int.reduceMul, Int.reduceNeg, Int.reduceBEq, Int.reduceBNe, Nat.reduceBEq, hb, Pc_to (s_Itoa 10 _ hg1 (by decide) (by decide))]
      refine Po_add (by simp; omega) ?_
      simp only [go_sem, Nat.reduceLT, Nat.reduceLeDiff, Nat.reduceEqDiff, Nat.reduceAdd, Nat.reduceMul, Nat.reduceSub, Int.reduceLT, Int.reduceLE, Int.reduceEq, Int.reduceNe, Int.reduceToNat, Int.reduceAdd, Int.reduceSub, Int.reduceMul, Int.reduceNeg, Int.reduceBEq, Int.reduceBNe, Nat.reduceBEq]
      refine Po_add (by simp; omega) ?_
      simp only [go_sem, Nat.reduceLT, Nat.reduceLeDiff, Nat.reduceEqDiff, Nat.reduceAdd, Nat.reduceMul, Nat.reduceSub, Int.reduceLT, Int.reduceLE, Int.reduceEq, Int.reduceNe, Int.reduceToNat, Int.reduceAdd, Int.reduceSub, Int.reduceMul, Int.reduceNeg, Int.reduceBEq, Int.reduceBNe, Nat.reduceBEq]
      refine Po_add (by simp; omega) ?_
      simp only [go_sem, Nat.reduceLT, Nat.reduceLeDiff, Nat.reduceEqDiff, Nat.reduceAdd, Nat.reduceMul, Nat.reduceSub, Int.reduceLT, Int.reduceLE, Int.reduceEq, Int.reduceNe, Int.reduceToNat, Int.reduceAdd, Int.reduceSub, Int.reduceMul, Int.reduceNeg, Int.reduceBEq, Int.reduceBNe, Nat.reduceBEq]
      exact ⟨_, rfl, by simp [recT, k6], (Keeps.app _ _).trans hk1⟩
    · simp only [go_sem, Nat.reduceLT, Nat.reduceLeDiff, Nat.reduceEqDiff, Nat.reduceAdd, Nat.reduceMul, Nat.reduceSub, Int.reduceLT, Int.reduceLE, Int.reduceEq, Int.reduceNe, Int.reduceToNat, Int.reduceAdd, Int.reduceSub, Int.reduceMul, Int.reduceNeg, Int.reduceBEq, Int.reduceBNe, Nat.reduceBEq, hb, kr]
      refine Po_add (by simp; omega) ?_
      simp only [go_sem, Nat.reduceLT, Nat.reduceLeDiff, Nat.reduceEqDiff, Nat.reduceAdd, Nat.reduceMul, Nat.reduceSub, Int.reduceLT, Int.reduceLE, Int.reduceEq, Int.reduceNe, Int.reduceToNat, Int.reduceAdd, Int.reduceSub, Int.reduceMul, Int.reduceNeg, Int.reduceBEq, Int.reduceBNe, Nat.reduceBEq, hb, Pc_to (s_Itoa rk _ hg1 hrk.1 hrk.2)]
      refine Po_add (by simp; omega) ?_
      simp only [go_sem, Nat.reduceLT, Nat.reduceLeDiff, Nat.reduceEqDiff, Nat.reduceAdd, Nat.reduceMul, Nat.reduceSub, Int.reduceLT, Int.reduceLE, Int.reduceEq, Int.reduceNe, Int.reduceToNat, Int.reduceAdd, Int.reduceSub, Int.reduceMul, Int.reduceNeg, Int.reduceBEq, Int.reduceBNe, Nat.reduceBEq]
      refine Po_add (by simp; omega) ?_
      simp only [go_sem, Nat.reduceLT, Nat.reduceLeDiff, Nat.reduceEqDiff, Nat.reduceAdd, Nat.reduceMul, Nat.reduceSub, Int.reduceLT, Int.reduceLE, Int.reduceEq, Int.reduceNe, Int.reduceToNat, Int.reduceAdd, Int.reduceSub, Int.reduceMul, Int.reduceNeg, Int.reduceBEq, Int.reduceBNe, Nat.reduceBEq]
      refine Po_add (by simp; omega) ?_
      simp only [go_sem, Nat.reduceLT, Nat.reduceLeDiff, Nat.reduceEqDiff, Nat.reduceAdd, Nat.reduceMul, Nat.reduceSub, Int.reduceLT, Int.reduceLE, Int.reduceEq, Int.reduceNe, Int.reduceToNat, Int.reduceAdd, Int.reduceSub, Int.reduceMul, Int.reduceNeg, Int.reduceBEq, Int.reduceBNe, Nat.reduceBEq]
      exact ⟨_, rfl, by simp [recT, k6, kr], (Keeps.app _ _).trans hk1⟩
  simp only [go_sem, Nat.reduceLT, Nat.reduceLeDiff, Nat.reduceEqDiff, Nat.reduceAdd, Nat.reduceMul, Nat.reduceSub, Int.reduceLT, Int.reduceLE, Int.reduceEq, Int.reduceNe, Int.reduceToNat, Int.reduceAdd, Int.reduceSub, Int.reduceMul, Int.reduceNeg, Int.reduceBEq, Int.reduceBNe, Nat.reduceBEq, k1, k2, k3, k4, k5, k6]
  exact ⟨_, rfl, by simp [recT, k1, k2, k3, k4, k5, k6], Keeps.app _ _⟩
end Am
end Go.Proofs.YtjjkjfdojifchaaDoor
