/-
  WHAT THE FUNCTIONS COME TO, part 6: a builder's steps.
  Conditions: none.
-/
import Derived.Test.YtjjkjfdojifchaaDoorSp1
set_option linter.unusedVariables false
set_option linter.unusedSimpArgs false
namespace Go.Proofs.YtjjkjfdojifchaaDoor
namespace Am
/-- A buffer of bytes that is being made. -/
def SBT (h : Heap) (x : V) (l : List V) : Prop := (l = [] ∧ x = .sl none 0 (some 0) 0) ∨ ∃ id, x = .sl (some (id, 0)) l.length none 1 ∧ h[id]? = some (.cells l false (some tyU8)) ∧ l ≠ [] ∧ l.length ≤ 35184372088832
theorem app1T {h : Heap} {x : V} {l : List V} (hb : SBT h x l) (v : V) (bytes : Nat) (hl : (l.length + 1) * bytes ≤ 35184372088832) (hl2 : l.length + 1 ≤ 35184372088832) :
    ∃ H', appendG (some tyU8) (h ++ [.cells [v] false none]) false 1 bytes x (.sl (some (h.length, 0)) 1 (some 1) 1) = some (.sl (some (h.length + 1, 0)) (l ++ [v]).length none 1, H') ∧
      SBT H' (.sl (some (h.length + 1, 0)) (l ++ [v]).length none 1) (l ++ [v]) ∧ H'.length = h.length + 2 ∧ ∀ j o, h[j]? = some o → ¬ x.at j → H'[j]? = some o := by
  have hsrc : appSrc (h ++ [.cells [v] false none]) false 1 (.sl (some (h.length, 0)) 1 (some 1) 1) = some (1, [v]) := by
    simp [appSrc, getCells, get_new0]
  have hb2 : ¬ ((l.length + 1) * bytes > 35184372088832 ∨ l.length + 1 > 35184372088832) := by omega
  rcases hb with ⟨rfl, rfl⟩ | ⟨id, rfl, hid, hne, _⟩
  · refine ⟨(h ++ [.cells [v] false none]) ++ [.cells [v] false (some tyU8)], ?_, .inr ⟨_, rfl, ?_, by simp, by simp⟩, by simp, fun j o hj _ => ?_⟩
    · simp only [appendG, hsrc]
      simp only [List.length_nil] at hb2
      rw [if_neg (by decide), if_neg hb2]
      simp
    · rw [List.append_assoc, get_new]; rfl
    · rw [List.append_assoc, get_old _ (by rw [hj]; rfl)]; exact hj
  · have hlt : id < h.length := (List.getElem?_eq_some_iff.1 hid).1
    have hid2 : (h ++ [.cells [v] false none])[id]? = some (.cells l false (some tyU8)) := by rw [get_old _ (by rw [hid]; rfl)]; exact hid
    have hg : getCells (h ++ [.cells [v] false none]) id 0 (l.length * 1) = some l := by
      simp [getCells, hid2]
    have hpos : 0 < l.length := List.length_pos_iff.2 hne
    have htag : tagOf (some tyU8) (h ++ [.cells [v] false none]) id 0 l.length = some tyU8 := by simp [tagOf, hid2, hne]
    refine ⟨(h ++ [Obj.cells [v] false none]).set id Obj.dead ++ [Obj.cells (l ++ [v]) false (some tyU8)], ?_, .inr ⟨_, rfl, ?_, by simp, by simpa using hl2⟩, by simp, fun j o hj hx => ?_⟩
    · have hrw : rwOk (h ++ [.cells [v] false none]) id = true := by simp [rwOk, hid2]
      simp only [appendG, hsrc]
      rw [if_neg (by decide), if_neg hb2]
      simp only [ne_eq, not_true_eq_false, if_false, hg, hrw, if_true, htag]
      simp [List.length_set]
    · rw [List.getElem?_append_right (by simp)]; simp
    · have hne : id ≠ j := fun c => hx ⟨0, _, _, _, by rw [c]⟩
      rw [List.getElem?_append_left (by have := (List.getElem?_eq_some_iff.1 hj).1; simp; omega), List.getElem?_set_ne hne, get_old _ (by rw [hj]; rfl)]
      exact hj
/-- A builder that holds some bytes; what was there ahead of it is there still. -/
def BB (H0 h : Heap) (id : Nat) (bs : List UInt8) : Prop :=
  Keeps H0 h ∧ H0.length ≤ id ∧ ∃ q x, h[id]? = some (.cells [.p q, x] false (some tyB)) ∧ (q = none ∨ q = some (id, 0)) ∧ SBT h x (bytesV bs) ∧ Off H0 x ∧ ¬ x.at id
theorem BB.new (h : Heap) : BB h (h ++ [.cells [.p none, .sl none 0 (some 0) 0] false (some tyB)]) h.length [] :=
  ⟨Keeps.app _ _, Nat.le_refl _, none, _, by rw [get_new0]; rfl, .inl rfl, .inl ⟨rfl, rfl⟩, Off.nil _ _ _ _, fun ⟨_, _, _, _, e⟩ => by cases e⟩
theorem SBT.set {h : Heap} {x : V} {l : List V} (hb : SBT h x l) {i : Nat} (hi : ¬ x.at i) (o : Obj) : SBT (h.set i o) x l := by
  rcases hb with ⟨rfl, rfl⟩ | ⟨id, rfl, hid, hn⟩
  · exact .inl ⟨rfl, rfl⟩
  · refine .inr ⟨id, rfl, ?_, hn⟩
    rw [set_ne _ (fun c => hi ⟨_, _, _, _, by rw [c]⟩)]
    exact hid
theorem s_check {H0 h : Heap} {id : Nat} {bs : List UInt8} (hb : BB H0 h id bs) : ∃ h', To M n_strings_Builder_copyCheck [.p (some (id, 0))] h un h' ∧ BB H0 h' id bs := by
  obtain ⟨hk, hi, q, x, hid, hq, hs, ho, hx⟩ := hb
  rcases hq with rfl | rfl
  · refine ⟨_, To_oracle (g := oCheck) rfl (by simp [oCheck, hid]), hk.set hi _, hi, _, x, set_same _ (by rw [hid]; rfl), .inr rfl, hs.set hx _, ho, hx⟩
  · exact ⟨_, To_oracle (g := oCheck) rfl (by simp [oCheck, hid]), hk, hi, _, x, hid, .inr rfl, hs, ho, hx⟩
theorem bytesV_app (a b : List UInt8) : bytesV (a ++ b) = bytesV a ++ bytesV b := by simp [bytesV]
theorem bytesOf_bytesV (l : List UInt8) : bytesOf (bytesV l) = some l := by
  induction l with
  | nil => rfl
  | cons c l ih =>
    show (bytesOf (bytesV l)).map (UInt8.ofNat ((c.toNat : Int)).toNat :: ·) = _
    rw [ih]; simp
theorem s_WriteByte {H0 h : Heap} {id : Nat} {bs : List UInt8} (hb : BB H0 h id bs) (hl : bs.length ≤ 1000000) (c : UInt8) : ∃ v h', To M n_strings_Builder_WriteByte [.p (some (id, 0)), .i .u8 c.toNat] h v h' ∧ v = .ni ∧ BB H0 h' id (bs ++ [c]) := by
  obtain ⟨h1, ht, hb1⟩ := s_check hb
  refine To_body' rfl F_strings_Builder_WriteByte (Nat.le_of_ble_eq_true rfl) ?_
  simp only [go_sem, Nat.reduceLT, Nat.reduceLeDiff, Nat.reduceEqDiff, Nat.reduceAdd, Nat.reduceMul, Nat.reduceSub, Int.reduceLT, Int.reduceLE, Int.reduceEq, Int.reduceNe, Int.reduceToNat, Int.reduceAdd, Int.reduceSub, Int.reduceMul, Int.reduceNeg, Int.reduceBEq, Int.reduceBNe, Nat.reduceBEq, b_strings_Builder_WriteByte]
  refine Pc_of ht ?_
  obtain ⟨hk, hi, q, x, hid, hq, hs, ho, hx⟩ := hb1
  obtain ⟨H', he, hb', hlen, hkeep⟩ := app1T hs (.i .u8 c.toNat) 1 (by simp [bytesV]; omega) (by simp [bytesV]; omega)
  have hid' := hkeep _ _ hid hx
  simp only [go_sem, Nat.reduceLT, Nat.reduceLeDiff, Nat.reduceEqDiff, Nat.reduceAdd, Nat.reduceMul, Nat.reduceSub, Int.reduceLT, Int.reduceLE, Int.reduceEq, Int.reduceNe, Int.reduceToNat, Int.reduceAdd, Int.reduceSub, Int.reduceMul, Int.reduceNeg, Int.reduceBEq, Int.reduceBNe, Nat.reduceBEq, hid, he, hid']
  have hltid := (List.getElem?_eq_some_iff.1 hid).1
  refine ⟨_, rfl, rfl, (ho.keeps hk (by omega) hkeep).set hi _, hi, q, _, set_same _ (by rw [hid']; rfl), hq, ?_, Off.new hk _ _ _ _, ?_⟩
  · rw [bytesV_app]
    refine SBT.set hb' ?_ _
    rintro ⟨_, _, _, _, e⟩
    injection e with e1
    injection e1 with e1
    injection e1 with e1 _
    omega
  · rintro ⟨_, _, _, _, e⟩
    injection e with e1
    injection e1 with e1
    injection e1 with e1 _
    omega
theorem s_BString {H0 h : Heap} {id : Nat} {bs : List UInt8} (hb : BB H0 h id bs) : ∃ h', To M n_strings_Builder_String [.p (some (id, 0))] h (.s bs) h' ∧ Keeps H0 h' := by
  obtain ⟨hk, hi, q, x, hid, hq, hs, ho, hx⟩ := hb
  rcases hs with ⟨e, rfl⟩ | ⟨bid, rfl, hbid, hn⟩
  · have : bs = [] := by cases bs with | nil => rfl | cons a l => simp [bytesV] at e
    subst this
    exact ⟨_, To_oracle (g := oString) rfl (by simp [oString, hid]), hk⟩
  · have hlb : H0.length ≤ bid := ho bid ⟨_, _, _, _, rfl⟩
    have hne : bid ≠ id := fun e => hx ⟨_, _, _, _, by rw [e]⟩
    have hpos : 0 < bs.length := List.length_pos_iff.2 fun e => hn.1 (by rw [e]; rfl)
    have hb2 : bytesOf ((bytesV bs).take bs.length) = some bs := by rw [List.take_of_length_le (by simp [bytesV]), bytesOf_bytesV]
    have hlen : (bytesV bs).length = bs.length := by simp [bytesV]
    have hbig : bs.length ≤ 35184372088832 := by have := hn.2; omega
    have hsame : ∀ l : List UInt8, sameL (bytesV l) (bytesV l) = true := fun l => by
      induction l with
      | nil => rfl
      | cons c l ih =>
        show (same1 (.i .u8 c.toNat) (.i .u8 c.toNat) && sameL (bytesV l) (bytesV l)) = true
        rw [ih]; simp [same1]
    have htk : (bytesV bs).take bs.length = bytesV bs := List.take_of_length_le (by simp [bytesV])
    refine ⟨_, To_oracle (g := oString) rfl ?_, hk.set hlb .dead⟩
    simp only [oString, hid, hbid, hlen]
    simp only [if_true, true_and, hne, hpos, ne_eq, not_false_eq_true, Nat.le_refl, and_self, bytesOf_bytesV, htk, hsame, hbig]
end Am
end Go.Proofs.YtjjkjfdojifchaaDoor
