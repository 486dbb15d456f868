/-
  WHAT THE FUNCTIONS COME TO, part 11: a unit's text, by the document.
  Conditions: none.
-/
import Derived.Test.YtjjkjfdojifchaaGreatDoorSp10
import Derived.Test.YtjjkjfdojifchaaGreatDoorSp2
set_option linter.unusedVariables false
set_option linter.unusedSimpArgs false
namespace Go.Proofs.YtjjkjfdojifchaaGreatDoor
namespace Am
theorem joinL_snoc (sep : List UInt8) (a : List (List UInt8)) (x : List UInt8) (h : a ≠ []) : joinL sep (a ++ [x]) = joinL sep a ++ sep ++ x := by
  induction a with
  | nil => exact absurd rfl h
  | cons b r ih =>
    cases r with
    | nil => simp [joinL]
    | cons c r =>
      have := ih (by simp)
      simp only [List.cons_append, joinL] at this ⊢
      rw [this]; simp
theorem rlist_loop {k : List K} {Q : X → List V → Heap → Prop} {H0 : Heap} {v1 : V} {a : Option (Nat × Nat)} {c : Option Nat} {z : Nat} {l : List Int} {s0 : List UInt8} (hR : R1 H0 a z (l.map (.i .i64))) (hL : l.length ≤ 1000) (hW : ∀ x ∈ l, W32 x) (hs0 : s0.length ≤ 100000000)
    (hex : ∀ g' H, Keeps H0 H → g' 1 = v1 → g' 3 = .s (s0 ++ joinL [44] (l.map itoaL)) → Un M k (.ex 0) (frL 97 g') H Q) :
    ∀ (n i : Nat) (g : Nat → V) (H : Heap), i + n = l.length → g 1 = v1 → g 3 = .s (s0 ++ joinL [44] ((l.take i).map itoaL)) → g 60 = .sl a l.length c z → g 61 = .i .i64 l.length → g 62 = .i .i64 i → Keeps H0 H →
      Un M (.code (.loop l_ref19_Unit_0) :: k) .nrm (frL 97 g) H Q := by
  intro n
  induction n with
  | zero =>
    intro i g H hi h1 h3 h60 h61 h62 hk
    have : i = l.length := by omega
    subst this
    rw [List.take_length] at h3
    rw [Un_loop]
    simp only [go_sem, Nat.reduceLT, Nat.reduceLeDiff, Nat.reduceEqDiff, Nat.reduceAdd, Nat.reduceMul, Nat.reduceSub, Int.reduceLT, Int.reduceLE, Int.reduceEq, Int.reduceNe, Int.reduceToNat, Int.reduceAdd, Int.reduceSub, Int.reduceMul, Int.reduceNeg, Int.reduceBEq, Int.reduceBNe, Nat.reduceBEq, l_ref19_Unit_0, h1, h3, h60, h61, h62, Int.lt_irrefl]
    exact hex _ H hk (by simp only [go_sem, Nat.reduceLT, Nat.reduceLeDiff, Nat.reduceEqDiff, Nat.reduceAdd, Nat.reduceMul, Nat.reduceSub, Int.reduceLT, Int.reduceLE, Int.reduceEq, Int.reduceNe, Int.reduceToNat, Int.reduceAdd, Int.reduceSub, Int.reduceMul, Int.reduceNeg, Int.reduceBEq, Int.reduceBNe, Nat.reduceBEq, h1]) (by simp only [go_sem, Nat.reduceLT, Nat.reduceLeDiff, Nat.reduceEqDiff, Nat.reduceAdd, Nat.reduceMul, Nat.reduceSub, Int.reduceLT, Int.reduceLE, Int.reduceEq, Int.reduceNe, Int.reduceToNat, Int.reduceAdd, Int.reduceSub, Int.reduceMul, Int.reduceNeg, Int.reduceBEq, Int.reduceBNe, Nat.reduceBEq, h3])
  | succ n ih =>
    intro i g H hi h1 h3 h60 h61 h62 hk
    have hlt : i < l.length := by omega
    have hw := hW l[i] (List.getElem_mem hlt)
    obtain ⟨id, off, us, ro, ty, rfl, rfl, hid, hv⟩ := (hR.keeps hk).lt (i := i) (by simpa using hlt)
    rw [List.getElem_map] at hv
    obtain ⟨_, H1, ht, rfl, hk1⟩ := s_Digits l[i] (by unfold W32 at hw; omega) (by unfold W32 at hw; omega) H
    have hjl := joinL_len [44] rfl ((l.take i).map itoaL) (fun x hx => by
      obtain ⟨y, hy, rfl⟩ := List.mem_map.1 hx
      exact itoaL_len (hW y (List.mem_of_mem_take hy)))
    rw [List.length_map, List.length_take] at hjl
    have hil := itoaL_len hw
    rw [Un_loop]
    by_cases hi0 : i = 0
    · subst hi0
      simp only [Nat.add_zero] at hv
      have sl : (s0 ++ joinL [44] []).length + (itoaL l[0]).length ≤ 4611686018427387904 := by simp only [joinL, List.length_append, List.length_nil]; omega
      simp only [go_sem, Nat.reduceLT, Nat.reduceLeDiff, Nat.reduceEqDiff, Nat.reduceAdd, Nat.reduceMul, Nat.reduceSub, Int.reduceLT, Int.reduceLE, Int.reduceEq, Int.reduceNe, Int.reduceToNat, Int.reduceAdd, Int.reduceSub, Int.reduceMul, Int.reduceNeg, Int.reduceBEq, Int.reduceBNe, Nat.reduceBEq, l_ref19_Unit_0, h1, h3, h60, h61, h62, show (0 : Int) < l.length by omega, hlt, sl, hid, hv, Pc_to ht, wrap_i64 (x := 1) (by decide) (by decide), Un_again]
      refine ih 1 _ H1 (by omega) (by simp only [go_sem, Nat.reduceLT, Nat.reduceLeDiff, Nat.reduceEqDiff, Nat.reduceAdd, Nat.reduceMul, Nat.reduceSub, Int.reduceLT, Int.reduceLE, Int.reduceEq, Int.reduceNe, Int.reduceToNat, Int.reduceAdd, Int.reduceSub, Int.reduceMul, Int.reduceNeg, Int.reduceBEq, Int.reduceBNe, Nat.reduceBEq, h1]) ?_ (by simp only [go_sem, Nat.reduceLT, Nat.reduceLeDiff, Nat.reduceEqDiff, Nat.reduceAdd, Nat.reduceMul, Nat.reduceSub, Int.reduceLT, Int.reduceLE, Int.reduceEq, Int.reduceNe, Int.reduceToNat, Int.reduceAdd, Int.reduceSub, Int.reduceMul, Int.reduceNeg, Int.reduceBEq, Int.reduceBNe, Nat.reduceBEq, h60]) (by simp only [go_sem, Nat.reduceLT, Nat.reduceLeDiff, Nat.reduceEqDiff, Nat.reduceAdd, Nat.reduceMul, Nat.reduceSub, Int.reduceLT, Int.reduceLE, Int.reduceEq, Int.reduceNe, Int.reduceToNat, Int.reduceAdd, Int.reduceSub, Int.reduceMul, Int.reduceNeg, Int.reduceBEq, Int.reduceBNe, Nat.reduceBEq, h61]) (by (first | (simp only [go_sem, Nat.reduceLT, Nat.reduceLeDiff, Nat.reduceEqDiff, Nat.reduceAdd, Nat.reduceMul, Nat.reduceSub, Int.reduceLT, Int.reduceLE, Int.reduceEq, Int.reduceNe, Int.reduceToNat, Int.reduceAdd, Int.reduceSub, Int.reduceMul, Int.reduceNeg, Int.reduceBEq, Int.reduceBNe, Nat.reduceBEq]; done) | (simp only [go_sem, Nat.reduceLT, Nat.reduceLeDiff, Nat.reduceEqDiff, Nat.reduceAdd, Nat.reduceMul, Nat.reduceSub, Int.reduceLT, Int.reduceLE, Int.reduceEq, Int.reduceNe, Int.reduceToNat, Int.reduceAdd, Int.reduceSub, Int.reduceMul, Int.reduceNeg, Int.reduceBEq, Int.reduceBNe, Nat.reduceBEq]; rfl) | rfl)) (hk.trans hk1)
      have e1 : l.take 1 = [l[0]] := by rw [List.take_succ_eq_append_getElem hlt]; simp
      simp only [go_sem, Nat.reduceLT, Nat.reduceLeDiff, Nat.reduceEqDiff, Nat.reduceAdd, Nat.reduceMul, Nat.reduceSub, Int.reduceLT, Int.reduceLE, Int.reduceEq, Int.reduceNe, Int.reduceToNat, Int.reduceAdd, Int.reduceSub, Int.reduceMul, Int.reduceNeg, Int.reduceBEq, Int.reduceBNe, Nat.reduceBEq]
      rw [e1]; simp [joinL]
    · have hne : (l.take i).map itoaL ≠ [] := by
        intro e
        have := congrArg List.length e
        rw [List.length_map, List.length_take, List.length_nil] at this
        omega
      simp only [go_sem, Nat.reduceLT, Nat.reduceLeDiff, Nat.reduceEqDiff, Nat.reduceAdd, Nat.reduceMul, Nat.reduceSub, Int.reduceLT, Int.reduceLE, Int.reduceEq, Int.reduceNe, Int.reduceToNat, Int.reduceAdd, Int.reduceSub, Int.reduceMul, Int.reduceNeg, Int.reduceBEq, Int.reduceBNe, Nat.reduceBEq, l_ref19_Unit_0, h1, h3, h60, h61, h62, Int.ofNat_lt, hlt, hid, hv, show (0 : Int) < i by omega, bn_s_add (s0 ++ joinL [44] ((l.take i).map itoaL)) [44] (by simp only [List.length_append, List.length_cons, List.length_nil]; omega), Pc_to ht, bn_s_add (s0 ++ (joinL [44] ((l.take i).map itoaL) ++ [44])) (itoaL l[i]) (by simp only [List.length_append, List.length_cons, List.length_nil]; omega), wrap_next (show i ≤ 4611686018427387904 by omega), Un_again]
      refine ih (i + 1) _ H1 (by omega) (by simp only [go_sem, Nat.reduceLT, Nat.reduceLeDiff, Nat.reduceEqDiff, Nat.reduceAdd, Nat.reduceMul, Nat.reduceSub, Int.reduceLT, Int.reduceLE, Int.reduceEq, Int.reduceNe, Int.reduceToNat, Int.reduceAdd, Int.reduceSub, Int.reduceMul, Int.reduceNeg, Int.reduceBEq, Int.reduceBNe, Nat.reduceBEq, h1]) ?_ (by simp only [go_sem, Nat.reduceLT, Nat.reduceLeDiff, Nat.reduceEqDiff, Nat.reduceAdd, Nat.reduceMul, Nat.reduceSub, Int.reduceLT, Int.reduceLE, Int.reduceEq, Int.reduceNe, Int.reduceToNat, Int.reduceAdd, Int.reduceSub, Int.reduceMul, Int.reduceNeg, Int.reduceBEq, Int.reduceBNe, Nat.reduceBEq, h60]) (by simp only [go_sem, Nat.reduceLT, Nat.reduceLeDiff, Nat.reduceEqDiff, Nat.reduceAdd, Nat.reduceMul, Nat.reduceSub, Int.reduceLT, Int.reduceLE, Int.reduceEq, Int.reduceNe, Int.reduceToNat, Int.reduceAdd, Int.reduceSub, Int.reduceMul, Int.reduceNeg, Int.reduceBEq, Int.reduceBNe, Nat.reduceBEq, h61]) (by simp only [go_sem, Nat.reduceLT, Nat.reduceLeDiff, Nat.reduceEqDiff, Nat.reduceAdd, Nat.reduceMul, Nat.reduceSub, Int.reduceLT, Int.reduceLE, Int.reduceEq, Int.reduceNe, Int.reduceToNat, Int.reduceAdd, Int.reduceSub, Int.reduceMul, Int.reduceNeg, Int.reduceBEq, Int.reduceBNe, Nat.reduceBEq]) (hk.trans hk1)
      simp only [go_sem, Nat.reduceLT, Nat.reduceLeDiff, Nat.reduceEqDiff, Nat.reduceAdd, Nat.reduceMul, Nat.reduceSub, Int.reduceLT, Int.reduceLE, Int.reduceEq, Int.reduceNe, Int.reduceToNat, Int.reduceAdd, Int.reduceSub, Int.reduceMul, Int.reduceNeg, Int.reduceBEq, Int.reduceBNe, Nat.reduceBEq]
      rw [List.take_succ_eq_append_getElem hlt, List.map_append, show [l[i]].map itoaL = [itoaL l[i]] from rfl, joinL_snoc _ _ _ hne]
      simp
theorem rlist_start {k : List K} {Q : X → List V → Heap → Prop} {H : Heap} {v1 : V} {a : Option (Nat × Nat)} {c : Option Nat} {z : Nat} {l : List Int} {s0 : List UInt8} {g : Nat → V} (hR : R1 H a z (l.map (.i .i64))) (hL : l.length ≤ 1000) (hW : ∀ x ∈ l, W32 x) (h1 : g 1 = v1) (h3 : g 3 = .s s0) (h60 : g 60 = .sl a l.length c z) (h61 : g 61 = .i .i64 l.length) (h62 : g 62 = .i .i64 ((0 : Nat) : Int)) (hs0 : s0.length ≤ 100000000)
    (hex : ∀ g' H', Keeps H H' → g' 1 = v1 → g' 3 = .s (s0 ++ joinL [44] (l.map itoaL)) → Un M k (.ex 0) (frL 97 g') H' Q) : Un M (.code (.loop l_ref19_Unit_0) :: k) .nrm (frL 97 g) H Q :=
  rlist_loop (c := c) hR hL hW hs0 hex l.length 0 g H (by omega) h1 (by rw [h3]; simp [joinL]) h60 h61 h62 (Keeps.refl _)
set_option maxHeartbeats 4000000 in
theorem s_rUnit (u : U) (h : Heap) (a : Option (Nat × Nat)) (c : Option Nat) (z : Nat) (hR : R1 h a z (u.list.map (.i .i64))) (hn : W32 u.n) (hps : W32 u.ps) (hmr : W32 u.mr) (hlist : ∀ x ∈ u.list, W32 x) (hlen : u.list.length ≤ 1000) (hdata : u.data.length ≤ 100000) :
    ∃ v h', To M n_ref19_Unit [rV u a c z] h v h' ∧ v = .s (if okU u then txt u else []) ∧ Keeps h h' := by
  obtain ⟨_, _, ht, e, os, rfl, rfl, he⟩ := s_rCheck u (h ++ [.cells [.i .i64 u.kind, .i .i64 u.sq, .i .i64 u.n, .i .i64 u.ps, .i .i64 u.mr, .sl a u.list.length c z, .b u.self, .s u.data] false none]) a c z (hR.keeps (Keeps.app _ _)) (by omega)
  unfold rV at ht
  refine To_body' rfl F_ref19_Unit (Nat.le_of_ble_eq_true rfl) ?_
  have hbox : (h ++ [Obj.cells [.i .i64 u.kind, .i .i64 u.sq, .i .i64 u.n, .i .i64 u.ps, .i .i64 u.mr, .sl a u.list.length c z, .b u.self, .s u.data] false none])[h.length]? = some (.cells [.i .i64 u.kind, .i .i64 u.sq, .i .i64 u.n, .i .i64 u.ps, .i .i64 u.mr, .sl a u.list.length c z, .b u.self, .s u.data] false none) := by (first | (simp only [go_sem, Nat.reduceLT, Nat.reduceLeDiff, Nat.reduceEqDiff, Nat.reduceAdd, Nat.reduceMul, Nat.reduceSub, Int.reduceLT, Int.reduceLE, Int.reduceEq, Int.reduceNe, Int.reduceToNat, Int.reduceAdd, Int.reduceSub, Int.reduceMul, Int.reduceNeg, Int.reduceBEq, Int.reduceBNe, Nat.reduceBEq]; done) | (simp only [go_sem, Nat.reduceLT, Nat.reduceLeDiff, Nat.reduceEqDiff, Nat.reduceAdd, Nat.reduceMul, Nat.reduceSub, Int.reduceLT, Int.reduceLE, Int.reduceEq, Int.reduceNe, Int.reduceToNat, Int.reduceAdd, Int.reduceSub, Int.reduceMul, Int.reduceNeg, Int.reduceBEq, Int.reduceBNe, Nat.reduceBEq]; rfl) | rfl)
  by_cases ok : okU u
  · have e0 : e = 0 := he.2 ok
    have ok1 := ok.1
    have ok2 := ok.2.1
    have okself := ok.2.2.2.2.2.2.2.2.2.2.2.1
    have oksq : 0 ≤ u.sq ∧ u.sq ≤ 255 := ⟨ok.2.2.2.2.2.2.2.1, ok.2.2.2.2.2.2.2.2.1⟩
    rw [if_pos ok]
    simp only [go_sem, Nat.reduceLT, Nat.reduceLeDiff, Nat.reduceEqDiff, Nat.reduceAdd, Nat.reduceMul, Nat.reduceSub, Int.reduceLT, Int.reduceLE, Int.reduceEq, Int.reduceNe, Int.reduceToNat, Int.reduceAdd, Int.reduceSub, Int.reduceMul, Int.reduceNeg, Int.reduceBEq, Int.reduceBNe, Nat.reduceBEq, b_ref19_Unit, rV, Pc_to ht, e0]
    refine Pc_ofK (keeps_of (s_rName _ ok1 ok2 _)) fun H1 k1 => ?_
    have hk : Keeps (h ++ [Obj.cells [.i .i64 u.kind, .i .i64 u.sq, .i .i64 u.n, .i .i64 u.ps, .i .i64 u.mr, .sl a u.list.length c z, .b u.self, .s u.data] false none]) H1 := by
      refine Keeps.trans ?_ k1
      rw [show ∀ o : Obj, h ++ o :: os = (h ++ [o]) ++ os from fun o => by simp]
      exact Keeps.app _ _
    clear k1
    have hP := hk.2 h.length _ hbox
    have hll : u.list.length = 0 ∨ u.list.length ≠ 0 := by omega
    have l1 := itoaL_len (sq_W oksq)
    have l2 := itoaL_len hn
    have l3 := itoaL_len hps
    have l4 := itoaL_len hmr
    have l5 := joinL_len [44] rfl (u.list.map itoaL) (fun x hx => by
      obtain ⟨y, hy, rfl⟩ := List.mem_map.1 hx
      exact itoaL_len (hlist y hy))
    rw [List.length_map] at l5
    have l6 := hexT_len u.data
    have l7 := nameL_len u.kind
    have hk0 : Keeps h (h ++ [Obj.cells [.i .i64 u.kind, .i .i64 u.sq, .i .i64 u.n, .i .i64 u.ps, .i .i64 u.mr, .sl a u.list.length c z, .b u.self, .s u.data] false none]) := Keeps.app _ _
    clear ht he ok e0
    unfold W32 at hn hps hmr
    obtain ⟨kind, sq, n, ps, mr, list, self, data⟩ := u
    simp only at *
    rcases kinds kind with hkd | hkd
    · rcases hkd with rfl | rfl | rfl | rfl | rfl | rfl | rfl | rfl | rfl | rfl | rfl | rfl | rfl | rfl | rfl
      all_goals simp only [go_sem, Nat.reduceLT, Nat.reduceLeDiff, Nat.reduceEqDiff, Nat.reduceAdd, Nat.reduceMul, Nat.reduceSub, Int.reduceLT, Int.reduceLE, Int.reduceEq, Int.reduceNe, Int.reduceToNat, Int.reduceAdd, Int.reduceSub, Int.reduceMul, Int.reduceNeg, Int.reduceBEq, Int.reduceBNe, Nat.reduceBEq, hP, most, List.mem_cons, List.not_mem_nil]
      all_goals (repeat' (first | (refine Gd_splitN (fun e => ?_) (fun e => ?_) <;> simp only [go_sem, Nat.reduceLT, Nat.reduceLeDiff, Nat.reduceEqDiff, Nat.reduceAdd, Nat.reduceMul, Nat.reduceSub, Int.reduceLT, Int.reduceLE, Int.reduceEq, Int.reduceNe, Int.reduceToNat, Int.reduceAdd, Int.reduceSub, Int.reduceMul, Int.reduceNeg, Int.reduceBEq, Int.reduceBNe, Nat.reduceBEq, e, hP, most, List.mem_cons, List.not_mem_nil]) | (refine Gd_split (fun e => ?_) (fun e => ?_) <;> simp only [go_sem, Nat.reduceLT, Nat.reduceLeDiff, Nat.reduceEqDiff, Nat.reduceAdd, Nat.reduceMul, Nat.reduceSub, Int.reduceLT, Int.reduceLE, Int.reduceEq, Int.reduceNe, Int.reduceToNat, Int.reduceAdd, Int.reduceSub, Int.reduceMul, Int.reduceNeg, Int.reduceBEq, Int.reduceBNe, Nat.reduceBEq, e, hP, most, List.mem_cons, List.not_mem_nil]) | (refine Br_splitN (fun e => ?_) (fun e => ?_) <;> simp only [go_sem, Nat.reduceLT, Nat.reduceLeDiff, Nat.reduceEqDiff, Nat.reduceAdd, Nat.reduceMul, Nat.reduceSub, Int.reduceLT, Int.reduceLE, Int.reduceEq, Int.reduceNe, Int.reduceToNat, Int.reduceAdd, Int.reduceSub, Int.reduceMul, Int.reduceNeg, Int.reduceBEq, Int.reduceBNe, Nat.reduceBEq, e, hP, most, List.mem_cons, List.not_mem_nil]) | (refine Br_split (fun e => ?_) (fun e => ?_) <;> simp only [go_sem, Nat.reduceLT, Nat.reduceLeDiff, Nat.reduceEqDiff, Nat.reduceAdd, Nat.reduceMul, Nat.reduceSub, Int.reduceLT, Int.reduceLE, Int.reduceEq, Int.reduceNe, Int.reduceToNat, Int.reduceAdd, Int.reduceSub, Int.reduceMul, Int.reduceNeg, Int.reduceBEq, Int.reduceBNe, Nat.reduceBEq, e, hP, most, List.mem_cons, List.not_mem_nil]) | (refine Pc_ofK (keeps_of (s_HasSQ _ _)) fun H2 k2 => ?_; replace hk := hk.trans k2; replace hP := hk.2 h.length _ hbox; simp only [go_sem, Nat.reduceLT, Nat.reduceLeDiff, Nat.reduceEqDiff, Nat.reduceAdd, Nat.reduceMul, Nat.reduceSub, Int.reduceLT, Int.reduceLE, Int.reduceEq, Int.reduceNe, Int.reduceToNat, Int.reduceAdd, Int.reduceSub, Int.reduceMul, Int.reduceNeg, Int.reduceBEq, Int.reduceBNe, Nat.reduceBEq, hP, most, List.mem_cons, List.not_mem_nil]) | (refine Pc_ofK (keeps_of (s_HasN _ _)) fun H2 k2 => ?_; replace hk := hk.trans k2; replace hP := hk.2 h.length _ hbox; simp only [go_sem, Nat.reduceLT, Nat.reduceLeDiff, Nat.reduceEqDiff, Nat.reduceAdd, Nat.reduceMul, Nat.reduceSub, Int.reduceLT, Int.reduceLE, Int.reduceEq, Int.reduceNe, Int.reduceToNat, Int.reduceAdd, Int.reduceSub, Int.reduceMul, Int.reduceNeg, Int.reduceBEq, Int.reduceBNe, Nat.reduceBEq, hP, most, List.mem_cons, List.not_mem_nil]) | (refine Pc_ofK (keeps_of (s_Most _ _)) fun H2 k2 => ?_; replace hk := hk.trans k2; replace hP := hk.2 h.length _ hbox; simp only [go_sem, Nat.reduceLT, Nat.reduceLeDiff, Nat.reduceEqDiff, Nat.reduceAdd, Nat.reduceMul, Nat.reduceSub, Int.reduceLT, Int.reduceLE, Int.reduceEq, Int.reduceNe, Int.reduceToNat, Int.reduceAdd, Int.reduceSub, Int.reduceMul, Int.reduceNeg, Int.reduceBEq, Int.reduceBNe, Nat.reduceBEq, hP, most, List.mem_cons, List.not_mem_nil]) | (refine Pc_ofK (s_Digits _ ?_ ?_ _) fun H2 k2 => ?_; (focus omega); (focus omega); replace hk := hk.trans k2; replace hP := hk.2 h.length _ hbox; simp only [go_sem, Nat.reduceLT, Nat.reduceLeDiff, Nat.reduceEqDiff, Nat.reduceAdd, Nat.reduceMul, Nat.reduceSub, Int.reduceLT, Int.reduceLE, Int.reduceEq, Int.reduceNe, Int.reduceToNat, Int.reduceAdd, Int.reduceSub, Int.reduceMul, Int.reduceNeg, Int.reduceBEq, Int.reduceBNe, Nat.reduceBEq, hP, most, List.mem_cons, List.not_mem_nil]) | (refine Pc_ofK (s_rHex _ _ hdata) fun H2 k2 => ?_; replace hk := hk.trans k2; replace hP := hk.2 h.length _ hbox; simp only [go_sem, Nat.reduceLT, Nat.reduceLeDiff, Nat.reduceEqDiff, Nat.reduceAdd, Nat.reduceMul, Nat.reduceSub, Int.reduceLT, Int.reduceLE, Int.reduceEq, Int.reduceNe, Int.reduceToNat, Int.reduceAdd, Int.reduceSub, Int.reduceMul, Int.reduceNeg, Int.reduceBEq, Int.reduceBNe, Nat.reduceBEq, hP, most, List.mem_cons, List.not_mem_nil]) | (refine Po_add ?_ ?_; (focus (simp only [List.length_append, List.length_cons, List.length_nil]; omega)); simp only [go_sem, Nat.reduceLT, Nat.reduceLeDiff, Nat.reduceEqDiff, Nat.reduceAdd, Nat.reduceMul, Nat.reduceSub, Int.reduceLT, Int.reduceLE, Int.reduceEq, Int.reduceNe, Int.reduceToNat, Int.reduceAdd, Int.reduceSub, Int.reduceMul, Int.reduceNeg, Int.reduceBEq, Int.reduceBNe, Nat.reduceBEq, hP, most, List.mem_cons, List.not_mem_nil])))
      all_goals try (refine ⟨_, rfl, ?_, hk0.trans hk⟩; simp_all [txt, nameL, hasL, fieldT])
      all_goals (
        refine rlist_start (hR.keeps (hk0.trans hk)) hlen hlist rfl rfl rfl rfl rfl ?_ (fun g' H k3 h1 h3 => ?_)
        · simp only [List.length_append, List.length_cons, List.length_nil]; omega
        · replace hk := hk.trans k3
          replace hP := hk.2 h.length _ hbox
          simp only [go_sem, Nat.reduceLT, Nat.reduceLeDiff, Nat.reduceEqDiff, Nat.reduceAdd, Nat.reduceMul, Nat.reduceSub, Int.reduceLT, Int.reduceLE, Int.reduceEq, Int.reduceNe, Int.reduceToNat, Int.reduceAdd, Int.reduceSub, Int.reduceMul, Int.reduceNeg, Int.reduceBEq, Int.reduceBNe, Nat.reduceBEq, hP, h1, h3, List.mem_cons, List.not_mem_nil]
          repeat' (first | (refine Gd_splitN (fun e => ?_) (fun e => ?_) <;> simp only [go_sem, Nat.reduceLT, Nat.reduceLeDiff, Nat.reduceEqDiff, Nat.reduceAdd, Nat.reduceMul, Nat.reduceSub, Int.reduceLT, Int.reduceLE, Int.reduceEq, Int.reduceNe, Int.reduceToNat, Int.reduceAdd, Int.reduceSub, Int.reduceMul, Int.reduceNeg, Int.reduceBEq, Int.reduceBNe, Nat.reduceBEq, e, hP, h1, h3, most, List.mem_cons, List.not_mem_nil]) | (refine Gd_split (fun e => ?_) (fun e => ?_) <;> simp only [go_sem, Nat.reduceLT, Nat.reduceLeDiff, Nat.reduceEqDiff, Nat.reduceAdd, Nat.reduceMul, Nat.reduceSub, Int.reduceLT, Int.reduceLE, Int.reduceEq, Int.reduceNe, Int.reduceToNat, Int.reduceAdd, Int.reduceSub, Int.reduceMul, Int.reduceNeg, Int.reduceBEq, Int.reduceBNe, Nat.reduceBEq, e, hP, h1, h3, most, List.mem_cons, List.not_mem_nil]) | (refine Br_splitN (fun e => ?_) (fun e => ?_) <;> simp only [go_sem, Nat.reduceLT, Nat.reduceLeDiff, Nat.reduceEqDiff, Nat.reduceAdd, Nat.reduceMul, Nat.reduceSub, Int.reduceLT, Int.reduceLE, Int.reduceEq, Int.reduceNe, Int.reduceToNat, Int.reduceAdd, Int.reduceSub, Int.reduceMul, Int.reduceNeg, Int.reduceBEq, Int.reduceBNe, Nat.reduceBEq, e, hP, h1, h3, most, List.mem_cons, List.not_mem_nil]) | (refine Br_split (fun e => ?_) (fun e => ?_) <;> simp only [go_sem, Nat.reduceLT, Nat.reduceLeDiff, Nat.reduceEqDiff, Nat.reduceAdd, Nat.reduceMul, Nat.reduceSub, Int.reduceLT, Int.reduceLE, Int.reduceEq, Int.reduceNe, Int.reduceToNat, Int.reduceAdd, Int.reduceSub, Int.reduceMul, Int.reduceNeg, Int.reduceBEq, Int.reduceBNe, Nat.reduceBEq, e, hP, h1, h3, most, List.mem_cons, List.not_mem_nil]) | (refine Pc_ofK (keeps_of (s_HasSQ _ _)) fun H2 k2 => ?_; replace hk := hk.trans k2; replace hP := hk.2 h.length _ hbox; simp only [go_sem, Nat.reduceLT, Nat.reduceLeDiff, Nat.reduceEqDiff, Nat.reduceAdd, Nat.reduceMul, Nat.reduceSub, Int.reduceLT, Int.reduceLE, Int.reduceEq, Int.reduceNe, Int.reduceToNat, Int.reduceAdd, Int.reduceSub, Int.reduceMul, Int.reduceNeg, Int.reduceBEq, Int.reduceBNe, Nat.reduceBEq, hP, h1, h3, most, List.mem_cons, List.not_mem_nil]) | (refine Pc_ofK (keeps_of (s_HasN _ _)) fun H2 k2 => ?_; replace hk := hk.trans k2; replace hP := hk.2 h.length _ hbox; simp only [go_sem, Nat.reduceLT, Nat.reduceLeDiff, Nat.reduceEqDiff, Nat.reduceAdd, Nat.reduceMul, Nat.reduceSub, Int.reduceLT, Int.reduceLE, Int.reduceEq, Int.reduceNe, Int.reduceToNat, Int.reduceAdd, Int.reduceSub, Int.reduceMul, Int.reduceNeg, Int.reduceBEq, Int.reduceBNe, Nat.reduceBEq, hP, h1, h3, most, List.mem_cons, List.not_mem_nil]) | (refine Pc_ofK (keeps_of (s_Most _ _)) fun H2 k2 => ?_; replace hk := hk.trans k2; replace hP := hk.2 h.length _ hbox; simp only [go_sem, Nat.reduceLT, Nat.reduceLeDiff, Nat.reduceEqDiff, Nat.reduceAdd, Nat.reduceMul, Nat.reduceSub, Int.reduceLT, Int.reduceLE, Int.reduceEq, Int.reduceNe, Int.reduceToNat, Int.reduceAdd, Int.reduceSub, Int.reduceMul, Int.reduceNeg, Int.reduceBEq, Int.reduceBNe, Nat.reduceBEq, hP, h1, h3, most, List.mem_cons, List.not_mem_nil]) | (refine Pc_ofK (s_Digits _ ?_ ?_ _) fun H2 k2 => ?_; (focus omega); (focus omega); replace hk := hk.trans k2; replace hP := hk.2 h.length _ hbox; simp only [go_sem, Nat.reduceLT, Nat.reduceLeDiff, Nat.reduceEqDiff, Nat.reduceAdd, Nat.reduceMul, Nat.reduceSub, Int.reduceLT, Int.reduceLE, Int.reduceEq, Int.reduceNe, Int.reduceToNat, Int.reduceAdd, Int.reduceSub, Int.reduceMul, Int.reduceNeg, Int.reduceBEq, Int.reduceBNe, Nat.reduceBEq, hP, h1, h3, most, List.mem_cons, List.not_mem_nil]) | (refine Pc_ofK (s_rHex _ _ hdata) fun H2 k2 => ?_; replace hk := hk.trans k2; replace hP := hk.2 h.length _ hbox; simp only [go_sem, Nat.reduceLT, Nat.reduceLeDiff, Nat.reduceEqDiff, Nat.reduceAdd, Nat.reduceMul, Nat.reduceSub, Int.reduceLT, Int.reduceLE, Int.reduceEq, Int.reduceNe, Int.reduceToNat, Int.reduceAdd, Int.reduceSub, Int.reduceMul, Int.reduceNeg, Int.reduceBEq, Int.reduceBNe, Nat.reduceBEq, hP, h1, h3, most, List.mem_cons, List.not_mem_nil]) | (refine Po_add ?_ ?_; (focus (simp only [List.length_append, List.length_cons, List.length_nil]; omega)); simp only [go_sem, Nat.reduceLT, Nat.reduceLeDiff, Nat.reduceEqDiff, Nat.reduceAdd, Nat.reduceMul, Nat.reduceSub, Int.reduceLT, Int.reduceLE, Int.reduceEq, Int.reduceNe, Int.reduceToNat, Int.reduceAdd, Int.reduceSub, Int.reduceMul, Int.reduceNeg, Int.reduceBEq, Int.reduceBNe, Nat.reduceBEq, hP, h1, h3, most, List.mem_cons, List.not_mem_nil]))
          all_goals (refine ⟨_, rfl, ?_, hk0.trans hk⟩; simp_all [txt, nameL, hasL, fieldT, listT]))
    · omega
  · have e0 : ¬ e = 0 := fun c => ok (he.1 c)
    simp only [go_sem, Nat.reduceLT, Nat.reduceLeDiff, Nat.reduceEqDiff, Nat.reduceAdd, Nat.reduceMul, Nat.reduceSub, Int.reduceLT, Int.reduceLE, Int.reduceEq, Int.reduceNe, Int.reduceToNat, Int.reduceAdd, Int.reduceSub, Int.reduceMul, Int.reduceNeg, Int.reduceBEq, Int.reduceBNe, Nat.reduceBEq, b_ref19_Unit, rV, Pc_to ht, e0]
    rw [if_neg ok]
    exact ⟨_, rfl, rfl, Keeps.app _ _⟩
end Am
end Go.Proofs.YtjjkjfdojifchaaGreatDoor
