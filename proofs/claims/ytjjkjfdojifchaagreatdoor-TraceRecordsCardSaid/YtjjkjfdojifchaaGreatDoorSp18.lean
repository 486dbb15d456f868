/-
  WHAT THE FUNCTIONS COME TO, part 18: text is written to a builder; the lines of records.
  Conditions: none.
-/
import Derived.Test.YtjjkjfdojifchaaGreatDoorSp17
import Derived.Test.YtjjkjfdojifchaaGreatDoorSp6
set_option linter.unusedVariables false
set_option linter.unusedSimpArgs false
namespace Go.Proofs.YtjjkjfdojifchaaGreatDoor
namespace Am
theorem appT {h : Heap} {x : V} {bs : List UInt8} (hb : SBT h x (bytesV bs)) (t : List UInt8) (ht : t ≠ []) (hl : bs.length + t.length ≤ 35184372088832) :
    ∃ H', appendG (some tyU8) h true 1 1 x (.s t) = some (.sl (some (h.length, 0)) (bytesV (bs ++ t)).length none 1, H') ∧
      SBT H' (.sl (some (h.length, 0)) (bytesV (bs ++ t)).length none 1) (bytesV (bs ++ t)) ∧ H'.length = h.length + 1 ∧ ∀ j o, h[j]? = some o → ¬ x.at j → H'[j]? = some o := by
  have hsrc : appSrc h true 1 (.s t) = some (t.length, bytesV t) := by simp [appSrc]
  have hn0 : ¬ t.length = 0 := fun e => ht (List.length_eq_zero_iff.1 e)
  have hlen : ∀ l : List UInt8, (bytesV l).length = l.length := fun l => by simp [bytesV]
  have hne : bytesV (bs ++ t) ≠ [] := fun e => by
    have := congrArg List.length e
    rw [hlen] at this
    simp at this; exact ht this.2
  rcases hb with ⟨e, rfl⟩ | ⟨id, rfl, hid, hnb, _⟩
  · have hbs : bs = [] := by cases bs with | nil => rfl | cons a l => simp [bytesV] at e
    subst hbs
    refine ⟨h ++ [.cells (bytesV t) false (some tyU8)], ?_, .inr ⟨_, rfl, get_new0 _, hne, by rw [hlen]; simp at hl ⊢; omega⟩, by simp, fun j o hj _ => ?_⟩
    · simp only [appendG, hsrc]
      rw [if_neg hn0, if_neg (by simp at hl; omega)]
      simp [hlen]
    · rw [get_old _ (by rw [hj]; rfl)]; exact hj
  · have hlt : id < h.length := (List.getElem?_eq_some_iff.1 hid).1
    have htag : tagOf (some tyU8) h id 0 (bytesV bs).length = some tyU8 := by simp [tagOf, hid, hnb]
    have hg : getCells h id 0 ((bytesV bs).length * 1) = some (bytesV bs) := by
      simp [getCells, hid]
    refine ⟨h.set id .dead ++ [.cells (bytesV (bs ++ t)) false (some tyU8)], ?_, .inr ⟨_, rfl, ?_, hne, by rw [hlen]; simp; omega⟩, by simp, fun j o hj hx => ?_⟩
    · have hrw : rwOk h id = true := by simp [rwOk, hid]
      simp only [appendG, hsrc]
      rw [if_neg hn0, if_neg (by rw [hlen]; omega)]
      simp only [ne_eq, not_true_eq_false, if_false, hg, hrw, if_true, htag]
      simp only [bytesV_app, List.length_append, hlen]
    · rw [List.getElem?_append_right (by simp)]; simp
    · have hne : id ≠ j := fun c => hx ⟨0, _, _, _, by rw [c]⟩
      rw [List.getElem?_append_left (by have := (List.getElem?_eq_some_iff.1 hj).1; simp; omega), List.getElem?_set_ne hne]
      exact hj
theorem BB.keeps {H0 h h' : Heap} {id : Nat} {bs : List UInt8} (hb : BB H0 h id bs) (hk : Keeps h h') : BB H0 h' id bs := by
  obtain ⟨k, hi, q, x, hid, hq, hs, ho, hx⟩ := hb
  refine ⟨k.trans hk, hi, q, x, hk.2 _ _ hid, hq, ?_, ho, hx⟩
  rcases hs with hs | ⟨j, e1, e2, e3⟩
  · exact .inl hs
  · exact .inr ⟨j, e1, hk.2 _ _ e2, e3⟩
theorem s_WriteString {H0 h : Heap} {id : Nat} {bs : List UInt8} (hb : BB H0 h id bs) (t : List UInt8) (ht : t ≠ []) (hl : bs.length + t.length ≤ 35184372088832) : ∃ v h', To M n_strings_Builder_WriteString [.p (some (id, 0)), .s t] h v h' ∧ v = .t [.i .i64 t.length, .ni] ∧ BB H0 h' id (bs ++ t) := by
  obtain ⟨h1, htc, hb1⟩ := s_check hb
  refine To_body' rfl F_strings_Builder_WriteString (Nat.le_of_ble_eq_true rfl) ?_
  simp only [go_sem, Nat.reduceLT, Nat.reduceLeDiff, Nat.reduceEqDiff, Nat.reduceAdd, Nat.reduceMul, Nat.reduceSub, Int.reduceLT, Int.reduceLE, Int.reduceEq, Int.reduceNe, Int.reduceToNat, Int.reduceAdd, Int.reduceSub, Int.reduceMul, Int.reduceNeg, Int.reduceBEq, Int.reduceBNe, Nat.reduceBEq, b_strings_Builder_WriteString]
  refine Pc_of htc ?_
  obtain ⟨hk, hi, q, x, hid, hq, hs, ho, hx⟩ := hb1
  obtain ⟨H', he, hb', hlen, hkeep⟩ := appT hs t ht hl
  have hid' := hkeep _ _ hid hx
  simp only [go_sem, Nat.reduceLT, Nat.reduceLeDiff, Nat.reduceEqDiff, Nat.reduceAdd, Nat.reduceMul, Nat.reduceSub, Int.reduceLT, Int.reduceLE, Int.reduceEq, Int.reduceNe, Int.reduceToNat, Int.reduceAdd, Int.reduceSub, Int.reduceMul, Int.reduceNeg, Int.reduceBEq, Int.reduceBNe, Nat.reduceBEq, hid, he, hid']
  have hltid := (List.getElem?_eq_some_iff.1 hid).1
  refine ⟨_, rfl, rfl, (ho.keeps hk (by omega) hkeep).set hi _, hi, q, _, set_same _ (by rw [hid']; rfl), hq, ?_, Off.new (k := 0) hk _ _ _, ?_⟩
  · refine SBT.set hb' ?_ _
    rintro ⟨_, _, _, _, e⟩
    injection e with e1
    injection e1 with e1
    injection e1 with e1 _
    omega
  · rintro ⟨_, _, _, _, e⟩
    injection e with e1
    injection e1 with e1
    injection e1 with e1 _
    omega
theorem flat_rows : ∀ (l : List (List V × List UInt8)) (i : Nat) (hi : i < l.length), (∀ x ∈ l, x.1.length = 18) → i * 18 + 18 ≤ (l.flatMap (·.1)).length ∧ ((l.flatMap (·.1)).drop (i * 18)).take 18 = (l[i]).1 := by
  intro l
  induction l with
  | nil => intro i hi; cases hi
  | cons a l ih =>
    intro i hi h
    have ha := h a (by simp)
    cases i with
    | zero => simp [ha]
    | succ i =>
      obtain ⟨h1, h2⟩ := ih i (by simpa using hi) (fun x hx => h x (by simp [hx]))
      constructor
      · simp only [List.flatMap_cons, List.length_append, ha]; omega
      · rw [List.flatMap_cons, List.drop_append, List.drop_eq_nil_of_le (by omega), List.nil_append, ha, show (i + 1) * 18 - 18 = i * 18 from by omega, h2]
        rfl
/-- Each with a newline behind. -/
def linesT (l : List (List V × List UInt8)) : List UInt8 := l.flatMap fun x => x.2 ++ [10]
theorem lines_loop {k : List K} {Q : X → List V → Heap → Prop} {h : Heap} {W B : Nat} {c : Option Nat} {ro : Bool} {ty : Option Nat} {l : List (List V × List UInt8)} (hW : h[W]? = some (.cells (l.flatMap (·.1)) ro ty)) (hn : l.length ≤ 10000) (hr : ∀ x ∈ l, x.1.length = 18 ∧ x.1.all V.one = true ∧ x.2.length ≤ 10000000)
    (hrec : ∀ x ∈ l, ∀ H, Keeps h H → ∃ v h', To M n_trace_Record [.g x.1] H v h' ∧ v = .s x.2 ∧ Keeps H h')
    (hex : ∀ g' H, g' 3 = .p (some (B, 0)) → BB h H B (linesT l) → Un M k (.ex 0) (frL 18 g') H Q) :
    ∀ (n i : Nat) (g : Nat → V) (H : Heap), i + n = l.length → BB h H B (linesT (l.take i)) → g 3 = .p (some (B, 0)) → g 6 = .sl (some (W, 0)) l.length c 18 → g 7 = .i .i64 l.length → g 8 = .i .i64 i → (linesT (l.take i)).length ≤ 10000001 * i → Un M (.code (.loop l_trace_Lines_0) :: k) .nrm (frL 18 g) H Q := by
  intro n
  induction n with
  | zero =>
    intro i g H hi hb h3 h6 h7 h8 hlb
    have : i = l.length := by omega
    subst this
    rw [Un_loop]
    simp only [go_sem, Nat.reduceLT, Nat.reduceLeDiff, Nat.reduceEqDiff, Nat.reduceAdd, Nat.reduceMul, Nat.reduceSub, Int.reduceLT, Int.reduceLE, Int.reduceEq, Int.reduceNe, Int.reduceToNat, Int.reduceAdd, Int.reduceSub, Int.reduceMul, Int.reduceNeg, Int.reduceBEq, Int.reduceBNe, Nat.reduceBEq, l_trace_Lines_0, h3, h6, h7, h8, Int.lt_irrefl]
    rw [List.take_length] at hb
    exact hex _ _ (by simp only [go_sem, Nat.reduceLT, Nat.reduceLeDiff, Nat.reduceEqDiff, Nat.reduceAdd, Nat.reduceMul, Nat.reduceSub, Int.reduceLT, Int.reduceLE, Int.reduceEq, Int.reduceNe, Int.reduceToNat, Int.reduceAdd, Int.reduceSub, Int.reduceMul, Int.reduceNeg, Int.reduceBEq, Int.reduceBNe, Nat.reduceBEq, h3]) hb
  | succ n ih =>
    intro i g H hi hb h3 h6 h7 h8 hlb
    have hlt : i < l.length := by omega
    obtain ⟨f1, f2⟩ := flat_rows l i hlt (fun x hx => (hr x hx).1)
    obtain ⟨r1, r2, r3⟩ := hr l[i] (List.getElem_mem hlt)
    have hWH := hb.1.2 _ _ hW
    rw [Un_loop]
    have ht18 : List.take 18 l[i].1 = l[i].1 := List.take_of_length_le (Nat.le_of_eq r1)
    have hbk : BB h (H ++ [.cells l[i].1 false none]) B (linesT (l.take i)) := hb.keeps (Keeps.app _ _)
    simp only [go_sem, Nat.reduceLT, Nat.reduceLeDiff, Nat.reduceEqDiff, Nat.reduceAdd, Nat.reduceMul, Nat.reduceSub, Int.reduceLT, Int.reduceLE, Int.reduceEq, Int.reduceNe, Int.reduceToNat, Int.reduceAdd, Int.reduceSub, Int.reduceMul, Int.reduceNeg, Int.reduceBEq, Int.reduceBNe, Nat.reduceBEq, l_trace_Lines_0, h3, h6, h7, h8, Int.ofNat_lt, hlt, hWH, f1, f2, r1, r2, List.append_nil, List.drop_succ_cons, List.drop_nil, List.drop_zero, ht18]
    refine Pc_ofK (hrec l[i] (List.getElem_mem hlt) _ (hb.1.trans (Keeps.app _ _))) fun H1 hk1 => ?_
    have hb1 := hb.keeps ((Keeps.app _ _).trans hk1)
    simp only [go_sem, Nat.reduceLT, Nat.reduceLeDiff, Nat.reduceEqDiff, Nat.reduceAdd, Nat.reduceMul, Nat.reduceSub, Int.reduceLT, Int.reduceLE, Int.reduceEq, Int.reduceNe, Int.reduceToNat, Int.reduceAdd, Int.reduceSub, Int.reduceMul, Int.reduceNeg, Int.reduceBEq, Int.reduceBNe, Nat.reduceBEq, h3]
    refine Po_add (by simp; omega) ?_
    simp only [go_sem, Nat.reduceLT, Nat.reduceLeDiff, Nat.reduceEqDiff, Nat.reduceAdd, Nat.reduceMul, Nat.reduceSub, Int.reduceLT, Int.reduceLE, Int.reduceEq, Int.reduceNe, Int.reduceToNat, Int.reduceAdd, Int.reduceSub, Int.reduceMul, Int.reduceNeg, Int.reduceBEq, Int.reduceBNe, Nat.reduceBEq, h3]
    obtain ⟨_, H2, htw, rfl, hb2⟩ := s_WriteString hb1 (l[i].2 ++ [10]) (by simp) (by simp; omega)
    simp only [go_sem, Nat.reduceLT, Nat.reduceLeDiff, Nat.reduceEqDiff, Nat.reduceAdd, Nat.reduceMul, Nat.reduceSub, Int.reduceLT, Int.reduceLE, Int.reduceEq, Int.reduceNe, Int.reduceToNat, Int.reduceAdd, Int.reduceSub, Int.reduceMul, Int.reduceNeg, Int.reduceBEq, Int.reduceBNe, Nat.reduceBEq, Pc_to htw, h8, wrap_next (show i ≤ 4611686018427387904 by omega), Un_again]
    have hstep : linesT (l.take (i + 1)) = linesT (l.take i) ++ (l[i].2 ++ [10]) := by
      rw [List.take_succ_eq_append_getElem hlt]; simp only [linesT, List.flatMap_append, List.flatMap_cons, List.flatMap_nil, List.append_nil]
    refine ih (i + 1) _ H2 (by omega) (by rw [hstep]; exact hb2) (by simp only [go_sem, Nat.reduceLT, Nat.reduceLeDiff, Nat.reduceEqDiff, Nat.reduceAdd, Nat.reduceMul, Nat.reduceSub, Int.reduceLT, Int.reduceLE, Int.reduceEq, Int.reduceNe, Int.reduceToNat, Int.reduceAdd, Int.reduceSub, Int.reduceMul, Int.reduceNeg, Int.reduceBEq, Int.reduceBNe, Nat.reduceBEq, h3]) (by simp only [go_sem, Nat.reduceLT, Nat.reduceLeDiff, Nat.reduceEqDiff, Nat.reduceAdd, Nat.reduceMul, Nat.reduceSub, Int.reduceLT, Int.reduceLE, Int.reduceEq, Int.reduceNe, Int.reduceToNat, Int.reduceAdd, Int.reduceSub, Int.reduceMul, Int.reduceNeg, Int.reduceBEq, Int.reduceBNe, Nat.reduceBEq, h6]) (by simp only [go_sem, Nat.reduceLT, Nat.reduceLeDiff, Nat.reduceEqDiff, Nat.reduceAdd, Nat.reduceMul, Nat.reduceSub, Int.reduceLT, Int.reduceLE, Int.reduceEq, Int.reduceNe, Int.reduceToNat, Int.reduceAdd, Int.reduceSub, Int.reduceMul, Int.reduceNeg, Int.reduceBEq, Int.reduceBNe, Nat.reduceBEq, h7]) (by simp only [go_sem, Nat.reduceLT, Nat.reduceLeDiff, Nat.reduceEqDiff, Nat.reduceAdd, Nat.reduceMul, Nat.reduceSub, Int.reduceLT, Int.reduceLE, Int.reduceEq, Int.reduceNe, Int.reduceToNat, Int.reduceAdd, Int.reduceSub, Int.reduceMul, Int.reduceNeg, Int.reduceBEq, Int.reduceBNe, Nat.reduceBEq]) (by rw [hstep]; simp; omega)
/-- The lines of records. -/
theorem s_Lines {h : Heap} {W : Nat} {c : Option Nat} {ro : Bool} {ty : Option Nat} {l : List (List V × List UInt8)} (hW : h[W]? = some (.cells (l.flatMap (·.1)) ro ty)) (hn : l.length ≤ 10000) (hr : ∀ x ∈ l, x.1.length = 18 ∧ x.1.all V.one = true ∧ x.2.length ≤ 10000000)
    (hrec : ∀ x ∈ l, ∀ H, Keeps h H → ∃ v h', To M n_trace_Record [.g x.1] H v h' ∧ v = .s x.2 ∧ Keeps H h') :
    ∃ v h', To M n_trace_Lines [.sl (some (W, 0)) l.length c 18] h v h' ∧ v = .s (linesT l) ∧ Keeps h h' := by
  refine To_body' rfl F_trace_Lines (Nat.le_of_ble_eq_true rfl) ?_
  simp only [go_sem, Nat.reduceLT, Nat.reduceLeDiff, Nat.reduceEqDiff, Nat.reduceAdd, Nat.reduceMul, Nat.reduceSub, Int.reduceLT, Int.reduceLE, Int.reduceEq, Int.reduceNe, Int.reduceToNat, Int.reduceAdd, Int.reduceSub, Int.reduceMul, Int.reduceNeg, Int.reduceBEq, Int.reduceBNe, Nat.reduceBEq, b_trace_Lines]
  refine lines_loop (c := c) (B := h.length) hW hn hr hrec ?_ l.length 0 _ _ (by omega) (BB.new h) (by simp only [go_sem, Nat.reduceLT, Nat.reduceLeDiff, Nat.reduceEqDiff, Nat.reduceAdd, Nat.reduceMul, Nat.reduceSub, Int.reduceLT, Int.reduceLE, Int.reduceEq, Int.reduceNe, Int.reduceToNat, Int.reduceAdd, Int.reduceSub, Int.reduceMul, Int.reduceNeg, Int.reduceBEq, Int.reduceBNe, Nat.reduceBEq]) (by simp only [go_sem, Nat.reduceLT, Nat.reduceLeDiff, Nat.reduceEqDiff, Nat.reduceAdd, Nat.reduceMul, Nat.reduceSub, Int.reduceLT, Int.reduceLE, Int.reduceEq, Int.reduceNe, Int.reduceToNat, Int.reduceAdd, Int.reduceSub, Int.reduceMul, Int.reduceNeg, Int.reduceBEq, Int.reduceBNe, Nat.reduceBEq]) (by simp only [go_sem, Nat.reduceLT, Nat.reduceLeDiff, Nat.reduceEqDiff, Nat.reduceAdd, Nat.reduceMul, Nat.reduceSub, Int.reduceLT, Int.reduceLE, Int.reduceEq, Int.reduceNe, Int.reduceToNat, Int.reduceAdd, Int.reduceSub, Int.reduceMul, Int.reduceNeg, Int.reduceBEq, Int.reduceBNe, Nat.reduceBEq]) (by (first | (simp only [go_sem, Nat.reduceLT, Nat.reduceLeDiff, Nat.reduceEqDiff, Nat.reduceAdd, Nat.reduceMul, Nat.reduceSub, Int.reduceLT, Int.reduceLE, Int.reduceEq, Int.reduceNe, Int.reduceToNat, Int.reduceAdd, Int.reduceSub, Int.reduceMul, Int.reduceNeg, Int.reduceBEq, Int.reduceBNe, Nat.reduceBEq]; done) | (simp only [go_sem, Nat.reduceLT, Nat.reduceLeDiff, Nat.reduceEqDiff, Nat.reduceAdd, Nat.reduceMul, Nat.reduceSub, Int.reduceLT, Int.reduceLE, Int.reduceEq, Int.reduceNe, Int.reduceToNat, Int.reduceAdd, Int.reduceSub, Int.reduceMul, Int.reduceNeg, Int.reduceBEq, Int.reduceBNe, Nat.reduceBEq]; rfl) | rfl)) (by simp [linesT])
  intro g' H h3 hb
  obtain ⟨H', hs, hk⟩ := s_BString hb
  simp only [go_sem, Nat.reduceLT, Nat.reduceLeDiff, Nat.reduceEqDiff, Nat.reduceAdd, Nat.reduceMul, Nat.reduceSub, Int.reduceLT, Int.reduceLE, Int.reduceEq, Int.reduceNe, Int.reduceToNat, Int.reduceAdd, Int.reduceSub, Int.reduceMul, Int.reduceNeg, Int.reduceBEq, Int.reduceBNe, Nat.reduceBEq, h3, Pc_to hs]
  exact ⟨_, rfl, rfl, hk⟩
theorem s_Lines_nil {h : Heap} {c : Option Nat} {z : Nat} : ∃ v h', To M n_trace_Lines [.sl none 0 c z] h v h' ∧ v = .s [] ∧ Keeps h h' := by
  refine To_body' rfl F_trace_Lines (Nat.le_of_ble_eq_true rfl) ?_
  simp only [go_sem, Nat.reduceLT, Nat.reduceLeDiff, Nat.reduceEqDiff, Nat.reduceAdd, Nat.reduceMul, Nat.reduceSub, Int.reduceLT, Int.reduceLE, Int.reduceEq, Int.reduceNe, Int.reduceToNat, Int.reduceAdd, Int.reduceSub, Int.reduceMul, Int.reduceNeg, Int.reduceBEq, Int.reduceBNe, Nat.reduceBEq, b_trace_Lines]
  rw [Un_loop]
  obtain ⟨H', hs, hk⟩ := s_BString (BB.new h)
  simp only [go_sem, Nat.reduceLT, Nat.reduceLeDiff, Nat.reduceEqDiff, Nat.reduceAdd, Nat.reduceMul, Nat.reduceSub, Int.reduceLT, Int.reduceLE, Int.reduceEq, Int.reduceNe, Int.reduceToNat, Int.reduceAdd, Int.reduceSub, Int.reduceMul, Int.reduceNeg, Int.reduceBEq, Int.reduceBNe, Nat.reduceBEq, l_trace_Lines_0, Int.lt_irrefl, Pc_to hs]
  exact ⟨_, rfl, rfl, hk⟩
end Am
end Go.Proofs.YtjjkjfdojifchaaGreatDoor
