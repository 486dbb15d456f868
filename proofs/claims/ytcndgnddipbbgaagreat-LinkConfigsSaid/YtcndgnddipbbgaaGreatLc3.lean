/-
  WHICH CONFIGURATIONS MAY BE (LinkConfigs): the law, walked. What its head (awake) comes to is asked.
  Conditions: none (what is asked stands in each statement).
-/
import Derived.Test.YtcndgnddipbbgaaGreatLc2
set_option linter.unusedVariables false
set_option linter.unusedSimpArgs false
namespace Go.Proofs.YtcndgnddipbbgaaGreat
namespace Am
def in24 (x : Int) : Int := if (if 16777215 < x then 16777215 else x) > 0 then (if 16777215 < x then 16777215 else x) else 0
theorem s_in24 (x : Int) (h : Heap) : To M n_law18_LinkConfigs_1 [.i .i64 x] h (.i .i64 (in24 x)) h := by
  refine To_body rfl F_law18_LinkConfigs_1 (Nat.le_of_ble_eq_true rfl) ?_
  simp only [go_sem, Nat.reduceLT, Nat.reduceLeDiff, Nat.reduceEqDiff, Nat.reduceAdd, Nat.reduceMul, Nat.reduceSub, Int.reduceLT, Int.reduceLE, Int.reduceEq, Int.reduceNe, Int.reduceToNat, Int.reduceAdd, Int.reduceSub, Int.reduceMul, Int.reduceNeg, Int.reduceBEq, Int.reduceBNe, Nat.reduceBEq, b_law18_LinkConfigs_1]
  rfl
theorem in24_in (x : Int) : 0 ≤ in24 x ∧ in24 x ≤ 16777215 := by unfold in24; omega
def Cf.clip (c : Cf) : Cf := { c with start := in24 c.start }
theorem lk_iff (a b : Cf) (room : Int) : lkOk a.clip.own b.clip.own room ↔ a.clip.okR ∧ b.clip.okR ∧ a.clip.start = b.clip.start ∧ 1 ≤ room ∧ room ≤ 256 := by
  have h1 := in24_in a.start
  have h2 := in24_in b.start
  have e1 : nLow (in24 a.start) = in24 a.start := by unfold nLow; omega
  have e2 : nLow (in24 b.start) = in24 b.start := by unfold nLow; omega
  unfold lkOk Cf.ok Cf.pre Cf.okR Cf.own Cf.clip
  simp only [e1, e2, and_true, true_and, h1, h2, and_self]
def tailC : C := (.seq (.reg r_law18_LinkConfigs_7) (.seq (.draw r_law18_LinkConfigs_8 [(7, [9])] []) (.seq (.reg r_law18_LinkConfigs_9) (.seq (.reg r_law18_LinkConfigs_10) (.seq (.reg r_law18_LinkConfigs_11) .ret)))))
theorem body_eq : b_law18_LinkConfigs = (.seq (.reg r_law18_LinkConfigs_0) (.seq (.seq (.reg r_law18_LinkConfigs_1) (.cond (.tm 8) (.seq (.reg r_law18_LinkConfigs_2) .ret) .skip)) (.seq (.seq (.reg r_law18_LinkConfigs_3) (.cond (.tm 13) (.reg r_law18_LinkConfigs_4) .skip)) (.seq (.seq (.reg r_law18_LinkConfigs_5) (.cond (.tm 21) (.reg r_law18_LinkConfigs_6) .skip)) tailC)))) := rfl
theorem Tk.set {H : Heap} {v : V} {c : Cf} {n : Nat} {cs : List V} {ro : Bool} {ty : Option Nat} (k : Tk H v c) (hn : H[n]? = some (.cells cs ro ty)) (hl : cs.length ≠ 5) (o : Obj) : Tk (H.set n o) v c := by
  obtain ⟨id, cap, ro, ty, e, g⟩ := k
  refine ⟨id, cap, ro, ty, e, ?_⟩
  rw [List.getElem?_set_ne (fun c => by subst c; rw [hn] at g; injection g with g; injection g with g; rw [g] at hl; exact hl rfl)]
  exact g
theorem s_tail {h H : Heap} {a b : Cf} {va vb : V} {room : Int} {g : Nat → V} (hg1 : g 1 = .p (some (h.length, 0))) (hbx : H[h.length]? = some (.cells (a.rcs va ++ b.rcs vb ++ [.i .i64 room]) false none)) (ka : Tk H va a) (kb : Tk H vb b) (F : Fr h [] H) :
    Un M [.code tailC] .nrm (frL 96 g) H (fun x fr h1 => (x = .nrm ∨ x = .ret) ∧ ∃ v, fr.getD 2 un = v ∧ v = .b true ∧ Fr h [] h1) := by
  have hl := lt_of hbx
  have hva : va.one = true := by obtain ⟨_, _, _, _, rfl, _⟩ := ka; rfl
  unfold Cf.rcs at hbx
  simp only [go_sem, Nat.reduceLT, Nat.reduceLeDiff, Nat.reduceEqDiff, Nat.reduceAdd, Nat.reduceMul, Nat.reduceSub, Int.reduceLT, Int.reduceLE, Int.reduceEq, Int.reduceNe, Int.reduceToNat, Int.reduceAdd, Int.reduceSub, Int.reduceMul, Int.reduceNeg, Int.reduceBEq, Int.reduceBNe, Nat.reduceBEq, tailC, hg1, hbx, hl, Pc_to (s_in24 _ _), List.getElem?_set_self, List.length_set, List.set_set]
  generalize hH1 : List.set H h.length _ = H1
  have ka1 : Tk H1 va a.clip := by rw [← hH1]; exact ka.set hbx (by simp) _
  have kb1 : Tk H1 vb b.clip := by rw [← hH1]; exact kb.set hbx (by simp) _
  have F1 : Fr h [] H1 := by rw [← hH1]; exact F.set (.inr (Nat.le_refl _)) _
  have g1 : H1[h.length]? = some (.cells (a.clip.rcs va ++ b.clip.rcs vb ++ [.i .i64 room]) false none) := by rw [← hH1, List.getElem?_set_self hl]; rfl
  unfold Cf.rcs at g1
  refine Pc_ex (s_own (a := a.clip) (b := b.clip) ka1 kb1) fun H2 F2 => ?_
  simp only [go_sem, Nat.reduceLT, Nat.reduceLeDiff, Nat.reduceEqDiff, Nat.reduceAdd, Nat.reduceMul, Nat.reduceSub, Int.reduceLT, Int.reduceLE, Int.reduceEq, Int.reduceNe, Int.reduceToNat, Int.reduceAdd, Int.reduceSub, Int.reduceMul, Int.reduceNeg, Int.reduceBEq, Int.reduceBNe, Nat.reduceBEq]
  refine Pc_exv (s_linkNew a.clip.own b.clip.own room _) fun v H3 ⟨hv, F3⟩ => ?_
  have F13 := F2.trans F3 (by simp)
  have g3 := F13.get g1 (by simp)
  have ka3 := ka1.fr F13
  have kb3 := kb1.fr F13
  have FF3 := F1.trans F13 (by simp)
  have hex : ∃ i c, v = .t [.p i, .i .i64 c] ∧ (i = none ↔ ¬ lkOk a.clip.own b.clip.own room) ∧ (c = if lkOk a.clip.own b.clip.own room then 0 else 1) := by
    rcases hv with ⟨e, i, rfl⟩ | ⟨e, rfl⟩
    · exact ⟨_, _, rfl, by simp [e], by rw [if_pos e]⟩
    · exact ⟨_, _, rfl, by simp [e], by rw [if_neg e]⟩
  clear hv
  obtain ⟨i, c, rfl, hi, hc⟩ := hex
  have hlk := lk_iff a b room
  rw [hlk] at hi
  simp only [go_sem, Nat.reduceLT, Nat.reduceLeDiff, Nat.reduceEqDiff, Nat.reduceAdd, Nat.reduceMul, Nat.reduceSub, Int.reduceLT, Int.reduceLE, Int.reduceEq, Int.reduceNe, Int.reduceToNat, Int.reduceAdd, Int.reduceSub, Int.reduceMul, Int.reduceNeg, Int.reduceBEq, Int.reduceBNe, Nat.reduceBEq, g3, hg1]
  refine Pc_ex (s_chk16 (c := a.clip) ka3) fun H4 F4 => ?_
  have g4 := F4.get g3 (by simp)
  have FF4 := FF3.trans F4 (by simp)
  by_cases e : a.clip.okR ∧ b.clip.okR ∧ a.clip.start = b.clip.start ∧ 1 ≤ room ∧ room ≤ 256
  · rw [if_pos (hlk.2 e)] at hc
    subst hc
    have hi' : i ≠ none := fun q => hi.1 q e
    obtain ⟨p, rfl⟩ := Option.ne_none_iff_exists'.1 hi'
    obtain ⟨oA, oB, es, r1, r2⟩ := id e
    simp only [go_sem, Nat.reduceLT, Nat.reduceLeDiff, Nat.reduceEqDiff, Nat.reduceAdd, Nat.reduceMul, Nat.reduceSub, Int.reduceLT, Int.reduceLE, Int.reduceEq, Int.reduceNe, Int.reduceToNat, Int.reduceAdd, Int.reduceSub, Int.reduceMul, Int.reduceNeg, Int.reduceBEq, Int.reduceBNe, Nat.reduceBEq, g4, hg1, oA, decide_true]
    refine Pc_ex (s_chk16 (c := b.clip) (kb3.fr F4)) fun H5 F5 => ?_
    have g5 := F5.get g4 (by simp)
    simp only [go_sem, Nat.reduceLT, Nat.reduceLeDiff, Nat.reduceEqDiff, Nat.reduceAdd, Nat.reduceMul, Nat.reduceSub, Int.reduceLT, Int.reduceLE, Int.reduceEq, Int.reduceNe, Int.reduceToNat, Int.reduceAdd, Int.reduceSub, Int.reduceMul, Int.reduceNeg, Int.reduceBEq, Int.reduceBNe, Nat.reduceBEq, g5, hg1, oB, decide_eq_true es, r1, r2, decide_true, ge_iff_le]
    refine Pc_ex (s_own (a := a.clip) (b := b.clip) ((ka3.fr F4).fr F5) ((kb3.fr F4).fr F5)) fun H6 F6 => ?_
    simp only [go_sem, Nat.reduceLT, Nat.reduceLeDiff, Nat.reduceEqDiff, Nat.reduceAdd, Nat.reduceMul, Nat.reduceSub, Int.reduceLT, Int.reduceLE, Int.reduceEq, Int.reduceNe, Int.reduceToNat, Int.reduceAdd, Int.reduceSub, Int.reduceMul, Int.reduceNeg, Int.reduceBEq, Int.reduceBNe, Nat.reduceBEq]
    refine Pc_ex (s_linkCheck a.clip.own b.clip.own room _) fun H7 F7 => ?_
    simp only [go_sem, Nat.reduceLT, Nat.reduceLeDiff, Nat.reduceEqDiff, Nat.reduceAdd, Nat.reduceMul, Nat.reduceSub, Int.reduceLT, Int.reduceLE, Int.reduceEq, Int.reduceNe, Int.reduceToNat, Int.reduceAdd, Int.reduceSub, Int.reduceMul, Int.reduceNeg, Int.reduceBEq, Int.reduceBNe, Nat.reduceBEq, if_pos (hlk.2 e)]
    exact ⟨_, rfl, rfl, ((FF4.trans F5 (by simp)).trans F6 (by simp)).trans F7 (by simp)⟩
  · rw [if_neg (fun q => e (hlk.1 q))] at hc
    subst hc
    obtain rfl := hi.2 e
    have hN := fun q => e (hlk.1 q)
    by_cases oA : a.clip.okR
    · simp only [go_sem, Nat.reduceLT, Nat.reduceLeDiff, Nat.reduceEqDiff, Nat.reduceAdd, Nat.reduceMul, Nat.reduceSub, Int.reduceLT, Int.reduceLE, Int.reduceEq, Int.reduceNe, Int.reduceToNat, Int.reduceAdd, Int.reduceSub, Int.reduceMul, Int.reduceNeg, Int.reduceBEq, Int.reduceBNe, Nat.reduceBEq, g4, hg1, oA, decide_true]
      refine Pc_ex (s_chk16 (c := b.clip) (kb3.fr F4)) fun H5 F5 => ?_
      have g5 := F5.get g4 (by simp)
      by_cases oB : b.clip.okR
      · by_cases es : a.clip.start = b.clip.start
        · by_cases r1 : 1 ≤ room
          · have r2 : ¬ room ≤ 256 := fun r2 => e ⟨oA, oB, es, r1, r2⟩
            simp only [go_sem, Nat.reduceLT, Nat.reduceLeDiff, Nat.reduceEqDiff, Nat.reduceAdd, Nat.reduceMul, Nat.reduceSub, Int.reduceLT, Int.reduceLE, Int.reduceEq, Int.reduceNe, Int.reduceToNat, Int.reduceAdd, Int.reduceSub, Int.reduceMul, Int.reduceNeg, Int.reduceBEq, Int.reduceBNe, Nat.reduceBEq, g5, hg1, oB, decide_eq_true es, r1, r2, decide_true, decide_false, ge_iff_le]
            refine Pc_ex (s_own (a := a.clip) (b := b.clip) ((ka3.fr F4).fr F5) ((kb3.fr F4).fr F5)) fun H6 F6 => ?_
            simp only [go_sem, Nat.reduceLT, Nat.reduceLeDiff, Nat.reduceEqDiff, Nat.reduceAdd, Nat.reduceMul, Nat.reduceSub, Int.reduceLT, Int.reduceLE, Int.reduceEq, Int.reduceNe, Int.reduceToNat, Int.reduceAdd, Int.reduceSub, Int.reduceMul, Int.reduceNeg, Int.reduceBEq, Int.reduceBNe, Nat.reduceBEq]
            refine Pc_ex (s_linkCheck a.clip.own b.clip.own room _) fun H7 F7 => ?_
            simp only [go_sem, Nat.reduceLT, Nat.reduceLeDiff, Nat.reduceEqDiff, Nat.reduceAdd, Nat.reduceMul, Nat.reduceSub, Int.reduceLT, Int.reduceLE, Int.reduceEq, Int.reduceNe, Int.reduceToNat, Int.reduceAdd, Int.reduceSub, Int.reduceMul, Int.reduceNeg, Int.reduceBEq, Int.reduceBNe, Nat.reduceBEq, if_neg hN]
            exact ⟨_, rfl, rfl, ((FF4.trans F5 (by simp)).trans F6 (by simp)).trans F7 (by simp)⟩
          · simp only [go_sem, Nat.reduceLT, Nat.reduceLeDiff, Nat.reduceEqDiff, Nat.reduceAdd, Nat.reduceMul, Nat.reduceSub, Int.reduceLT, Int.reduceLE, Int.reduceEq, Int.reduceNe, Int.reduceToNat, Int.reduceAdd, Int.reduceSub, Int.reduceMul, Int.reduceNeg, Int.reduceBEq, Int.reduceBNe, Nat.reduceBEq, g5, hg1, oB, decide_eq_true es, r1, decide_true, decide_false, ge_iff_le]
            refine Pc_ex (s_own (a := a.clip) (b := b.clip) ((ka3.fr F4).fr F5) ((kb3.fr F4).fr F5)) fun H6 F6 => ?_
            simp only [go_sem, Nat.reduceLT, Nat.reduceLeDiff, Nat.reduceEqDiff, Nat.reduceAdd, Nat.reduceMul, Nat.reduceSub, Int.reduceLT, Int.reduceLE, Int.reduceEq, Int.reduceNe, Int.reduceToNat, Int.reduceAdd, Int.reduceSub, Int.reduceMul, Int.reduceNeg, Int.reduceBEq, Int.reduceBNe, Nat.reduceBEq]
            refine Pc_ex (s_linkCheck a.clip.own b.clip.own room _) fun H7 F7 => ?_
            simp only [go_sem, Nat.reduceLT, Nat.reduceLeDiff, Nat.reduceEqDiff, Nat.reduceAdd, Nat.reduceMul, Nat.reduceSub, Int.reduceLT, Int.reduceLE, Int.reduceEq, Int.reduceNe, Int.reduceToNat, Int.reduceAdd, Int.reduceSub, Int.reduceMul, Int.reduceNeg, Int.reduceBEq, Int.reduceBNe, Nat.reduceBEq, if_neg hN]
            exact ⟨_, rfl, rfl, ((FF4.trans F5 (by simp)).trans F6 (by simp)).trans F7 (by simp)⟩
        · simp only [go_sem, Nat.reduceLT, Nat.reduceLeDiff, Nat.reduceEqDiff, Nat.reduceAdd, Nat.reduceMul, Nat.reduceSub, Int.reduceLT, Int.reduceLE, Int.reduceEq, Int.reduceNe, Int.reduceToNat, Int.reduceAdd, Int.reduceSub, Int.reduceMul, Int.reduceNeg, Int.reduceBEq, Int.reduceBNe, Nat.reduceBEq, g5, hg1, oB, decide_eq_false es, decide_true, decide_false, ge_iff_le]
          refine Pc_ex (s_own (a := a.clip) (b := b.clip) ((ka3.fr F4).fr F5) ((kb3.fr F4).fr F5)) fun H6 F6 => ?_
          simp only [go_sem, Nat.reduceLT, Nat.reduceLeDiff, Nat.reduceEqDiff, Nat.reduceAdd, Nat.reduceMul, Nat.reduceSub, Int.reduceLT, Int.reduceLE, Int.reduceEq, Int.reduceNe, Int.reduceToNat, Int.reduceAdd, Int.reduceSub, Int.reduceMul, Int.reduceNeg, Int.reduceBEq, Int.reduceBNe, Nat.reduceBEq]
          refine Pc_ex (s_linkCheck a.clip.own b.clip.own room _) fun H7 F7 => ?_
          simp only [go_sem, Nat.reduceLT, Nat.reduceLeDiff, Nat.reduceEqDiff, Nat.reduceAdd, Nat.reduceMul, Nat.reduceSub, Int.reduceLT, Int.reduceLE, Int.reduceEq, Int.reduceNe, Int.reduceToNat, Int.reduceAdd, Int.reduceSub, Int.reduceMul, Int.reduceNeg, Int.reduceBEq, Int.reduceBNe, Nat.reduceBEq, if_neg hN]
          exact ⟨_, rfl, rfl, ((FF4.trans F5 (by simp)).trans F6 (by simp)).trans F7 (by simp)⟩
      · simp only [go_sem, Nat.reduceLT, Nat.reduceLeDiff, Nat.reduceEqDiff, Nat.reduceAdd, Nat.reduceMul, Nat.reduceSub, Int.reduceLT, Int.reduceLE, Int.reduceEq, Int.reduceNe, Int.reduceToNat, Int.reduceAdd, Int.reduceSub, Int.reduceMul, Int.reduceNeg, Int.reduceBEq, Int.reduceBNe, Nat.reduceBEq, g5, hg1, oB, decide_false]
        refine Pc_ex (s_own (a := a.clip) (b := b.clip) ((ka3.fr F4).fr F5) ((kb3.fr F4).fr F5)) fun H6 F6 => ?_
        simp only [go_sem, Nat.reduceLT, Nat.reduceLeDiff, Nat.reduceEqDiff, Nat.reduceAdd, Nat.reduceMul, Nat.reduceSub, Int.reduceLT, Int.reduceLE, Int.reduceEq, Int.reduceNe, Int.reduceToNat, Int.reduceAdd, Int.reduceSub, Int.reduceMul, Int.reduceNeg, Int.reduceBEq, Int.reduceBNe, Nat.reduceBEq]
        refine Pc_ex (s_linkCheck a.clip.own b.clip.own room _) fun H7 F7 => ?_
        simp only [go_sem, Nat.reduceLT, Nat.reduceLeDiff, Nat.reduceEqDiff, Nat.reduceAdd, Nat.reduceMul, Nat.reduceSub, Int.reduceLT, Int.reduceLE, Int.reduceEq, Int.reduceNe, Int.reduceToNat, Int.reduceAdd, Int.reduceSub, Int.reduceMul, Int.reduceNeg, Int.reduceBEq, Int.reduceBNe, Nat.reduceBEq, if_neg hN]
        exact ⟨_, rfl, rfl, ((FF4.trans F5 (by simp)).trans F6 (by simp)).trans F7 (by simp)⟩
    · simp only [go_sem, Nat.reduceLT, Nat.reduceLeDiff, Nat.reduceEqDiff, Nat.reduceAdd, Nat.reduceMul, Nat.reduceSub, Int.reduceLT, Int.reduceLE, Int.reduceEq, Int.reduceNe, Int.reduceToNat, Int.reduceAdd, Int.reduceSub, Int.reduceMul, Int.reduceNeg, Int.reduceBEq, Int.reduceBNe, Nat.reduceBEq, g4, hg1, oA, decide_false]
      refine Pc_ex (s_own (a := a.clip) (b := b.clip) (ka3.fr F4) (kb3.fr F4)) fun H6 F6 => ?_
      simp only [go_sem, Nat.reduceLT, Nat.reduceLeDiff, Nat.reduceEqDiff, Nat.reduceAdd, Nat.reduceMul, Nat.reduceSub, Int.reduceLT, Int.reduceLE, Int.reduceEq, Int.reduceNe, Int.reduceToNat, Int.reduceAdd, Int.reduceSub, Int.reduceMul, Int.reduceNeg, Int.reduceBEq, Int.reduceBNe, Nat.reduceBEq]
      refine Pc_ex (s_linkCheck a.clip.own b.clip.own room _) fun H7 F7 => ?_
      simp only [go_sem, Nat.reduceLT, Nat.reduceLeDiff, Nat.reduceEqDiff, Nat.reduceAdd, Nat.reduceMul, Nat.reduceSub, Int.reduceLT, Int.reduceLE, Int.reduceEq, Int.reduceNe, Int.reduceToNat, Int.reduceAdd, Int.reduceSub, Int.reduceMul, Int.reduceNeg, Int.reduceBEq, Int.reduceBNe, Nat.reduceBEq, if_neg hN]
      exact ⟨_, rfl, rfl, (FF4.trans F6 (by simp)).trans F7 (by simp)⟩
/-- Ticks that came in: a row of five, or what has not five. -/
def Ti (H : Heap) (v : V) (c : Cf) : Prop := Tk H v c ∨ ∃ a n cap z, v = .sl a n cap z ∧ n ≠ 5
def Cf.std (c : Cf) : Cf := { c with t0 := 3, t1 := 2, t2 := 5, t3 := 9, t4 := 4 }
theorem s_LinkConfigs {h : Heap} {a b : Cf} {va vb : V} {room : Int} (haw : ∀ o : Obj, ∃ h', To M n_law18_awake [] (h ++ [o]) (.b true) h' ∧ Fr (h ++ [o]) [] h') (ha : Ti h va a) (hb : Ti h vb b) :
    ∃ h', To M n_law18_LinkConfigs [.g (a.rcs va ++ b.rcs vb ++ [.i .i64 room])] h (.b true) h' ∧ Fr h [] h' := by
  refine ex_of ?_
  refine To_body' rfl F_law18_LinkConfigs (Nat.le_of_ble_eq_true rfl) ?_
  rcases ha with ha | ⟨xa, na, ca, za, rfl, ea⟩ <;> rcases hb with hb | ⟨xb, nb, cb, zb, rfl, eb⟩
  · have ha' := ha
    have hb' := hb
    obtain ⟨ia, ca, ra, ya, rfl, ga⟩ := ha'
    obtain ⟨ib, cb, rb, yb, rfl, gb⟩ := hb'
    simp only [go_sem, Nat.reduceLT, Nat.reduceLeDiff, Nat.reduceEqDiff, Nat.reduceAdd, Nat.reduceMul, Nat.reduceSub, Int.reduceLT, Int.reduceLE, Int.reduceEq, Int.reduceNe, Int.reduceToNat, Int.reduceAdd, Int.reduceSub, Int.reduceMul, Int.reduceNeg, Int.reduceBEq, Int.reduceBNe, Nat.reduceBEq, body_eq, Cf.rcs]
    refine Pc_ex (haw _) fun H1 F1 => ?_
    have g1 := F1.get (get_new0 _) (by simp)
    simp only [go_sem, Nat.reduceLT, Nat.reduceLeDiff, Nat.reduceEqDiff, Nat.reduceAdd, Nat.reduceMul, Nat.reduceSub, Int.reduceLT, Int.reduceLE, Int.reduceEq, Int.reduceNe, Int.reduceToNat, Int.reduceAdd, Int.reduceSub, Int.reduceMul, Int.reduceNeg, Int.reduceBEq, Int.reduceBNe, Nat.reduceBEq, g1]
    exact s_tail (a := a) (b := b) (by simp only [go_sem, Nat.reduceLT, Nat.reduceLeDiff, Nat.reduceEqDiff, Nat.reduceAdd, Nat.reduceMul, Nat.reduceSub, Int.reduceLT, Int.reduceLE, Int.reduceEq, Int.reduceNe, Int.reduceToNat, Int.reduceAdd, Int.reduceSub, Int.reduceMul, Int.reduceNeg, Int.reduceBEq, Int.reduceBNe, Nat.reduceBEq]) g1 (ha.fr (Fr.app0 F1)) (hb.fr (Fr.app0 F1)) (Fr.app0 F1)
  · have ha' := ha
    obtain ⟨ia, ca, ra, ya, rfl, ga⟩ := ha'
    have hne : ¬ (nb : Int) = 5 := by omega
    simp only [go_sem, Nat.reduceLT, Nat.reduceLeDiff, Nat.reduceEqDiff, Nat.reduceAdd, Nat.reduceMul, Nat.reduceSub, Int.reduceLT, Int.reduceLE, Int.reduceEq, Int.reduceNe, Int.reduceToNat, Int.reduceAdd, Int.reduceSub, Int.reduceMul, Int.reduceNeg, Int.reduceBEq, Int.reduceBNe, Nat.reduceBEq, body_eq, Cf.rcs]
    refine Pc_ex (haw _) fun H1 F1 => ?_
    have g1 := F1.get (get_new0 _) (by simp)
    have hl := lt_of g1
    simp only [go_sem, Nat.reduceLT, Nat.reduceLeDiff, Nat.reduceEqDiff, Nat.reduceAdd, Nat.reduceMul, Nat.reduceSub, Int.reduceLT, Int.reduceLE, Int.reduceEq, Int.reduceNe, Int.reduceToNat, Int.reduceAdd, Int.reduceSub, Int.reduceMul, Int.reduceNeg, Int.reduceBEq, Int.reduceBNe, Nat.reduceBEq, g1, hne, nel hl, nelk hl, nelr hl, nelkr hl, hl, List.getElem?_append_left, List.set_append_left]
    generalize hH2 : (List.set H1 h.length _ ++ _ : Heap) = H2
    have ka2 : Tk H2 (.sl (some (ia, 0)) 5 ca 1) a := by rw [← hH2]; exact ((ha.fr (Fr.app0 F1)).set g1 (by simp) _).fr ((Fr.refl _ _).app _)
    have kb2 : Tk H2 (.sl (some (H1.length, 0)) 5 (some 5) 1) b.std := ⟨H1.length, some 5, false, none, rfl, by rw [← hH2, List.getElem?_append_right (by simp), List.length_set, Nat.sub_self]; rfl⟩
    have F2 : Fr h [] H2 := by rw [← hH2]; exact ((Fr.app0 F1).set (.inr (Nat.le_refl _)) _).app _
    refine s_tail (room := room) (a := a) (b := b.std) (by simp only [go_sem, Nat.reduceLT, Nat.reduceLeDiff, Nat.reduceEqDiff, Nat.reduceAdd, Nat.reduceMul, Nat.reduceSub, Int.reduceLT, Int.reduceLE, Int.reduceEq, Int.reduceNe, Int.reduceToNat, Int.reduceAdd, Int.reduceSub, Int.reduceMul, Int.reduceNeg, Int.reduceBEq, Int.reduceBNe, Nat.reduceBEq]) ?_ ka2 kb2 F2
    rw [← hH2, List.getElem?_append_left (by simpa using hl), List.getElem?_set_self hl]
    rfl
  · have hb' := hb
    obtain ⟨ib, cb, rb, yb, rfl, gb⟩ := hb'
    have hne : ¬ (na : Int) = 5 := by omega
    simp only [go_sem, Nat.reduceLT, Nat.reduceLeDiff, Nat.reduceEqDiff, Nat.reduceAdd, Nat.reduceMul, Nat.reduceSub, Int.reduceLT, Int.reduceLE, Int.reduceEq, Int.reduceNe, Int.reduceToNat, Int.reduceAdd, Int.reduceSub, Int.reduceMul, Int.reduceNeg, Int.reduceBEq, Int.reduceBNe, Nat.reduceBEq, body_eq, Cf.rcs]
    refine Pc_ex (haw _) fun H1 F1 => ?_
    have g1 := F1.get (get_new0 _) (by simp)
    have hl := lt_of g1
    simp only [go_sem, Nat.reduceLT, Nat.reduceLeDiff, Nat.reduceEqDiff, Nat.reduceAdd, Nat.reduceMul, Nat.reduceSub, Int.reduceLT, Int.reduceLE, Int.reduceEq, Int.reduceNe, Int.reduceToNat, Int.reduceAdd, Int.reduceSub, Int.reduceMul, Int.reduceNeg, Int.reduceBEq, Int.reduceBNe, Nat.reduceBEq, g1, hne, nel hl, nelk hl, nelr hl, nelkr hl, hl, List.getElem?_append_left, List.set_append_left, List.getElem?_set_self, List.length_set]
    generalize hH2 : (List.set H1 h.length _ ++ _ : Heap) = H2
    have kb2 : Tk H2 (.sl (some (ib, 0)) 5 cb 1) b := by rw [← hH2]; exact ((hb.fr (Fr.app0 F1)).set g1 (by simp) _).fr ((Fr.refl _ _).app _)
    have ka2 : Tk H2 (.sl (some (H1.length, 0)) 5 (some 5) 1) a.std := ⟨H1.length, some 5, false, none, rfl, by rw [← hH2, List.getElem?_append_right (by simp), List.length_set, Nat.sub_self]; rfl⟩
    have F2 : Fr h [] H2 := by rw [← hH2]; exact ((Fr.app0 F1).set (.inr (Nat.le_refl _)) _).app _
    refine s_tail (room := room) (a := a.std) (b := b) (by simp only [go_sem, Nat.reduceLT, Nat.reduceLeDiff, Nat.reduceEqDiff, Nat.reduceAdd, Nat.reduceMul, Nat.reduceSub, Int.reduceLT, Int.reduceLE, Int.reduceEq, Int.reduceNe, Int.reduceToNat, Int.reduceAdd, Int.reduceSub, Int.reduceMul, Int.reduceNeg, Int.reduceBEq, Int.reduceBNe, Nat.reduceBEq]) ?_ ka2 kb2 F2
    rw [← hH2, List.getElem?_append_left (by simpa using hl), List.getElem?_set_self hl]
    rfl
  · have hna : ¬ (na : Int) = 5 := by omega
    have hnb : ¬ (nb : Int) = 5 := by omega
    simp only [go_sem, Nat.reduceLT, Nat.reduceLeDiff, Nat.reduceEqDiff, Nat.reduceAdd, Nat.reduceMul, Nat.reduceSub, Int.reduceLT, Int.reduceLE, Int.reduceEq, Int.reduceNe, Int.reduceToNat, Int.reduceAdd, Int.reduceSub, Int.reduceMul, Int.reduceNeg, Int.reduceBEq, Int.reduceBNe, Nat.reduceBEq, body_eq, Cf.rcs]
    refine Pc_ex (haw _) fun H1 F1 => ?_
    have g1 := F1.get (get_new0 _) (by simp)
    have hl := lt_of g1
    simp only [go_sem, Nat.reduceLT, Nat.reduceLeDiff, Nat.reduceEqDiff, Nat.reduceAdd, Nat.reduceMul, Nat.reduceSub, Int.reduceLT, Int.reduceLE, Int.reduceEq, Int.reduceNe, Int.reduceToNat, Int.reduceAdd, Int.reduceSub, Int.reduceMul, Int.reduceNeg, Int.reduceBEq, Int.reduceBNe, Nat.reduceBEq, g1, hna, hnb, nel hl, nelk hl, nelr hl, nelkr hl, hl, List.getElem?_append_left, List.set_append_left, List.getElem?_set_self, List.length_set, List.set_set, List.length_append]
    generalize hH2 : (List.set H1 h.length _ ++ _ : Heap) = H2
    have ka2 : Tk H2 (.sl (some (H1.length, 0)) 5 (some 5) 1) a.std := ⟨H1.length, some 5, false, none, rfl, by rw [← hH2, List.getElem?_append_right (by simp), List.length_set, Nat.sub_self]; rfl⟩
    have kb2 : Tk H2 (.sl (some (H1.length + 1, 0)) 5 (some 5) 1) b.std := ⟨H1.length + 1, some 5, false, none, rfl, by rw [← hH2, List.getElem?_append_right (by simp), List.length_set, Nat.add_sub_cancel_left]; rfl⟩
    have F2 : Fr h [] H2 := by rw [← hH2]; exact ((Fr.app0 F1).set (.inr (Nat.le_refl _)) _).app _
    refine s_tail (room := room) (a := a.std) (b := b.std) (by simp only [go_sem, Nat.reduceLT, Nat.reduceLeDiff, Nat.reduceEqDiff, Nat.reduceAdd, Nat.reduceMul, Nat.reduceSub, Int.reduceLT, Int.reduceLE, Int.reduceEq, Int.reduceNe, Int.reduceToNat, Int.reduceAdd, Int.reduceSub, Int.reduceMul, Int.reduceNeg, Int.reduceBEq, Int.reduceBNe, Nat.reduceBEq]) ?_ ka2 kb2 F2
    rw [← hH2, List.getElem?_append_left (by simpa using hl), List.getElem?_set_self hl]
    rfl
end Am
end Go.Proofs.YtcndgnddipbbgaaGreat
