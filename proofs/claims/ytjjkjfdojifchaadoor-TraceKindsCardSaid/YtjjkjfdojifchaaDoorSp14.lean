/-
  WHAT THE FUNCTIONS COME TO, part 14: a word of a unit is taken; a text is read.
  Conditions: none.
-/
import Derived.Test.YtjjkjfdojifchaaDoorSp13
import Derived.Test.YtjjkjfdojifchaaDoorSp10
set_option linter.unusedVariables false
set_option linter.unusedSimpArgs false
namespace Go.Proofs.YtjjkjfdojifchaaDoor
namespace Am
/-- A word is taken into a unit. -/
def takeP (u : U) (w : UInt8) (s : List UInt8) : Option U :=
  if w = 115 then (numP s [115, 113]).map fun n => { u with sq := n } else if w = 110 then (numP s [110]).map fun n => { u with n := n } else
  if w = 112 then (numP s [112, 115]).map fun n => { u with ps := n } else if w = 109 then (numP s [109, 114]).map fun n => { u with mr := n } else
  if w = 108 then (numsP s).map fun l => { u with list := l } else if s.take 1 = [100] then (unhexP (s.drop 1)).map fun d => { u with data := d } else none
def uCells (u : U) (a : Option (Nat × Nat)) (c : Option Nat) (z : Nat) : List V := [.i .i64 u.kind, .i .i64 u.sq, .i .u32 u.n, .i .u32 u.ps, .i .u32 u.mr, .sl a u.list.length c z, .b u.self, .s u.data]
/-- A unit that lies at an object. -/
def UOb (H : Heap) (P : Nat) (ty : Option Nat) (u : U) (a : Option (Nat × Nat)) (c : Option Nat) (z : Nat) : Prop :=
  H[P]? = some (.cells (uCells u a c z) false ty) ∧ R1 H a z (u.list.map (.i .u32)) ∧ (∀ off, a ≠ some (P, off)) ∧ W32 u.n ∧ W32 u.ps ∧ W32 u.mr ∧ (∀ x ∈ u.list, W32 x) ∧ u.list.length ≤ 100001
theorem low_W {x : Int} (h : lowI x) : W32 x := by unfold lowI at h; unfold W32; omega
theorem lo_W (x : Int) : W32 (lo (IntKind.u32.wrap x)) := by
  rw [wrap_u32_mod, lo_eq (by omega) (by omega)]
  unfold W32; omega
theorem s_take (u : U) (w : UInt8) (s : List UInt8) (H : Heap) (P : Nat) (ty : Option Nat) (a : Option (Nat × Nat)) (c : Option Nat) (z : Nat) (hw : w ∈ ([115, 110, 112, 109, 108, 100] : List UInt8)) (hu : UOb H P ty u a c z) (hg : glOk H = true) (hl : s.length ≤ 100000) :
    ∃ v h', To M n_trace_take [.p (some (P, 0)), .i .i32 w.toNat, .s s] H v h' ∧ H.length ≤ h'.length ∧ (∀ j o, H[j]? = some o → j ≠ P → h'[j]? = some o) ∧ ∃ b u' a' c' z', v = .b b ∧ UOb h' P ty u' a' c' z' ∧ (a' = a ∨ ∀ j off, a' = some (j, off) → H.length ≤ j) ∧ (b = true → takeP u w s = some u') ∧ (b = false → takeP u w s = none) := by
  obtain ⟨hP, hR, hne, w1, w2, w3, w4, w5⟩ := hu
  have hPl := (List.getElem?_eq_some_iff.1 hP).1
  unfold uCells at hP
  have fin : ∀ {h1 : Heap} (hk : Keeps H h1) (x : Obj), H.length ≤ (h1.set P x).length ∧ (∀ j o, H[j]? = some o → j ≠ P → (h1.set P x)[j]? = some o) := fun hk x =>
    ⟨by simpa using hk.1, fun j o hj hn => by rw [set_ne _ (fun e => hn e.symm)]; exact hk.2 _ _ hj⟩
  have num : ∀ (p : List UInt8), ∃ n b h1, To M n_trace_number [.s s, .s p] H (.t [.i .i64 n, .b b]) h1 ∧ Keeps H h1 ∧ (b = true → numP s p = some n) ∧ (b = false → numP s p = none) := fun p => by
    obtain ⟨_, h1, ht, hk, n, b, rfl, e1, e2⟩ := s_number s p H hg hl
    exact ⟨n, b, h1, ht, hk, e1, e2⟩
  have rest : ∀ {h1 : Heap} (hk : Keeps H h1) (x : Obj), R1 (h1.set P x) a z (u.list.map (.i .u32)) := fun hk x => (hR.keeps hk).set hne x
  refine To_body' rfl F_trace_take (Nat.le_of_ble_eq_true rfl) ?_
  simp only [List.mem_cons, List.not_mem_nil, or_false] at hw
  rcases hw with rfl | rfl | rfl | rfl | rfl | rfl
  · obtain ⟨n, b, h1, ht, hk, e1, e2⟩ := num [115, 113]
    have hP1 := hk.2 _ _ hP
    simp only [go_sem, Nat.reduceLT, Nat.reduceLeDiff, Nat.reduceEqDiff, Nat.reduceAdd, Nat.reduceMul, Nat.reduceSub, Int.reduceLT, Int.reduceLE, Int.reduceEq, Int.reduceNe, Int.reduceToNat, Int.reduceAdd, Int.reduceSub, Int.reduceMul, Int.reduceNeg, Int.reduceBEq, Int.reduceBNe, Nat.reduceBEq, b_trace_take, UInt8.reduceToNat, Pc_to ht, hP1]
    refine ⟨_, rfl, hk.1, (fin hk _).2, b, { u with sq := n }, a, c, z, rfl, ⟨set_same _ (by rw [hP1]; rfl), rest hk _, hne, w1, w2, w3, w4, w5⟩, .inl rfl, fun e => ?_, fun e => ?_⟩
    · simp [takeP, e1 e]
    · simp [takeP, e2 e]
  · obtain ⟨n, b, h1, ht, hk, e1, e2⟩ := num [110]
    have hP1 := hk.2 _ _ hP
    simp only [go_sem, Nat.reduceLT, Nat.reduceLeDiff, Nat.reduceEqDiff, Nat.reduceAdd, Nat.reduceMul, Nat.reduceSub, Int.reduceLT, Int.reduceLE, Int.reduceEq, Int.reduceNe, Int.reduceToNat, Int.reduceAdd, Int.reduceSub, Int.reduceMul, Int.reduceNeg, Int.reduceBEq, Int.reduceBNe, Nat.reduceBEq, b_trace_take, UInt8.reduceToNat, Pc_to ht, hP1, Pc_to (s_OfAny _ _)]
    refine ⟨_, rfl, hk.1, (fin hk _).2, b, { u with n := lo (IntKind.u32.wrap n) }, a, c, z, rfl, ⟨set_same _ (by rw [hP1]; rfl), rest hk _, hne, lo_W n, w2, w3, w4, w5⟩, .inl rfl, fun e => ?_, fun e => ?_⟩
    · simp [takeP, e1 e, Of_low (numP_low (e1 e))]
    · simp [takeP, e2 e]
  · obtain ⟨n, b, h1, ht, hk, e1, e2⟩ := num [112, 115]
    have hP1 := hk.2 _ _ hP
    simp only [go_sem, Nat.reduceLT, Nat.reduceLeDiff, Nat.reduceEqDiff, Nat.reduceAdd, Nat.reduceMul, Nat.reduceSub, Int.reduceLT, Int.reduceLE, Int.reduceEq, Int.reduceNe, Int.reduceToNat, Int.reduceAdd, Int.reduceSub, Int.reduceMul, Int.reduceNeg, Int.reduceBEq, Int.reduceBNe, Nat.reduceBEq, b_trace_take, UInt8.reduceToNat, Pc_to ht, hP1, Pc_to (s_OfAny _ _)]
    refine ⟨_, rfl, hk.1, (fin hk _).2, b, { u with ps := lo (IntKind.u32.wrap n) }, a, c, z, rfl, ⟨set_same _ (by rw [hP1]; rfl), rest hk _, hne, w1, lo_W n, w3, w4, w5⟩, .inl rfl, fun e => ?_, fun e => ?_⟩
    · simp [takeP, e1 e, Of_low (numP_low (e1 e))]
    · simp [takeP, e2 e]
  · obtain ⟨n, b, h1, ht, hk, e1, e2⟩ := num [109, 114]
    have hP1 := hk.2 _ _ hP
    simp only [go_sem, Nat.reduceLT, Nat.reduceLeDiff, Nat.reduceEqDiff, Nat.reduceAdd, Nat.reduceMul, Nat.reduceSub, Int.reduceLT, Int.reduceLE, Int.reduceEq, Int.reduceNe, Int.reduceToNat, Int.reduceAdd, Int.reduceSub, Int.reduceMul, Int.reduceNeg, Int.reduceBEq, Int.reduceBNe, Nat.reduceBEq, b_trace_take, UInt8.reduceToNat, Pc_to ht, hP1, Pc_to (s_OfAny _ _)]
    refine ⟨_, rfl, hk.1, (fin hk _).2, b, { u with mr := lo (IntKind.u32.wrap n) }, a, c, z, rfl, ⟨set_same _ (by rw [hP1]; rfl), rest hk _, hne, w1, w2, lo_W n, w4, w5⟩, .inl rfl, fun e => ?_, fun e => ?_⟩
    · simp [takeP, e1 e, Of_low (numP_low (e1 e))]
    · simp [takeP, e2 e]
  · obtain ⟨_, h1, ht, hk, a', c', z', l, b, rfl, hR', hid, hll, hlow, e1, e2⟩ := s_nums s H hg hl
    have hP1 := hk.2 _ _ hP
    simp only [go_sem, Nat.reduceLT, Nat.reduceLeDiff, Nat.reduceEqDiff, Nat.reduceAdd, Nat.reduceMul, Nat.reduceSub, Int.reduceLT, Int.reduceLE, Int.reduceEq, Int.reduceNe, Int.reduceToNat, Int.reduceAdd, Int.reduceSub, Int.reduceMul, Int.reduceNeg, Int.reduceBEq, Int.reduceBNe, Nat.reduceBEq, b_trace_take, UInt8.reduceToNat, Pc_to ht, hP1]
    have hne' : ∀ off, a' ≠ some (P, off) := fun off e => by have := hid _ _ e; omega
    refine ⟨_, rfl, hk.1, (fin hk _).2, b, { u with list := l }, a', c', z', rfl, ⟨set_same _ (by rw [hP1]; rfl), hR'.set hne' _, hne', w1, w2, w3, fun x hx => low_W (hlow x hx), hll⟩, .inr hid, fun e => ?_, fun e => ?_⟩
    · simp [takeP, e1 e]
    · simp [takeP, e2 e]
  · have hcl : (cutP s [100]).length ≤ 100000 := by
      unfold cutP
      split
      · rw [List.length_drop]; omega
      · omega
    obtain ⟨_, h1, ht, hk, bs, b, rfl, e1, e2⟩ := s_Unhex (cutP s [100]) H hcl
    have hP1 := hk.2 _ _ hP
    by_cases hp : s.take 1 = [100]
    · have hc : cutP s [100] = s.drop 1 := by rw [cutP]; exact if_pos hp
      rw [hc] at ht e1 e2
      simp only [go_sem, Nat.reduceLT, Nat.reduceLeDiff, Nat.reduceEqDiff, Nat.reduceAdd, Nat.reduceMul, Nat.reduceSub, Int.reduceLT, Int.reduceLE, Int.reduceEq, Int.reduceNe, Int.reduceToNat, Int.reduceAdd, Int.reduceSub, Int.reduceMul, Int.reduceNeg, Int.reduceBEq, Int.reduceBNe, Nat.reduceBEq, b_trace_take, UInt8.reduceToNat, Pc_to (s_CutPrefix _ _ _), hp, hc, Pc_to ht, hP1]
      have hpk : ∀ x : Bool, pk (.b true) (.b x) (.b false) h1 = some (.b x, h1) := fun x => rfl
      refine ⟨_, rfl, hk.1, (fin hk _).2, b, { u with data := bs }, a, c, z, rfl, ⟨set_same _ (by rw [hP1]; rfl), rest hk _, hne, w1, w2, w3, w4, w5⟩, .inl rfl, fun e => ?_, fun e => ?_⟩
      · have e3 := e1 e
        simp [takeP, hp] at e3 ⊢
        simp [e3]
      · have e3 := e2 e
        simp [takeP, hp] at e3 ⊢
        simp [e3]
    · simp only [go_sem, Nat.reduceLT, Nat.reduceLeDiff, Nat.reduceEqDiff, Nat.reduceAdd, Nat.reduceMul, Nat.reduceSub, Int.reduceLT, Int.reduceLE, Int.reduceEq, Int.reduceNe, Int.reduceToNat, Int.reduceAdd, Int.reduceSub, Int.reduceMul, Int.reduceNeg, Int.reduceBEq, Int.reduceBNe, Nat.reduceBEq, b_trace_take, UInt8.reduceToNat, Pc_to (s_CutPrefix _ _ _), hp, Pc_to ht, hP1]
      refine ⟨_, rfl, hk.1, (fin hk _).2, false, { u with data := bs }, a, c, z, rfl, ⟨set_same _ (by rw [hP1]; rfl), rest hk _, hne, w1, w2, w3, w4, w5⟩, .inl rfl, (fun e => by cases e), fun _ => ?_⟩
      simp [takeP, hp]
/-- Words, by their letters. -/
def takeAll : U → List UInt8 → List (List UInt8) → Option U
  | u, [], _ => some u
  | u, w :: l, x :: xs => match takeP u w x with | some u' => takeAll u' l xs | none => none
  | _, _ :: _, [] => none
def zeroU : U := ⟨0, 0, 0, 0, 0, [], false, []⟩
def zCells : List V := [.i .i64 0, .i .i64 0, .i .u32 0, .i .u32 0, .i .u32 0, .sl none 0 (some 0) 0, .b false, .s []]
theorem UOb.set {H : Heap} {P : Nat} {ty : Option Nat} {u : U} {a : Option (Nat × Nat)} {c : Option Nat} {z : Nat} (hu : UOb H P ty u a c z) {I : Nat} {l : List UInt8} {i : Nat} (hI : H[I]? = some (.str l i)) (o : Obj) : UOb (H.set I o) P ty u a c z := by
  obtain ⟨h1, h2, h3, h4⟩ := hu
  have hne : I ≠ P := fun e => by rw [e, h1] at hI; injection hI with hI; cases hI
  refine ⟨by rw [set_ne _ hne]; exact h1, h2.set (fun off e => ?_) _, h3, h4⟩
  subst e
  obtain ⟨_, vs, ro, ty', e2, _⟩ := h2
  rw [hI] at e2
  injection e2 with e2
  cases e2
theorem parse_loop {k : List K} {Q : X → List V → Heap → Prop} {h : Heap} {W P I Rr : Nat} {ws : List (List UInt8)} {l : List UInt8} {cw tW tR tP : Option Nat} {res : Option U} (hg : glOk h = true)
    (hl : ∀ w ∈ l, w ∈ ([115, 110, 112, 109, 108, 100] : List UInt8)) (hll : l.length ≤ 10) (hws : ws.length = 1 + l.length) (hm : ∀ w ∈ ws, w.length ≤ 100000) (iP : h.length ≤ P) (iI : h.length ≤ I) (iR : h.length ≤ Rr) (hPI : I ≠ P) (hPR : Rr ≠ P) (hIR : I ≠ Rr) (hWP : W ≠ P) (hWI : I ≠ W)
    (hret : res = none → ∀ g' H, g' 2 = .p (some (Rr, 0)) → g' 3 = .b false → H[Rr]? = some (.cells zCells false tR) → Keeps h H → Un M k .ret (frL 73 g') H Q)
    (hex : ∀ g' H u a c z, res = some u → g' 2 = .p (some (Rr, 0)) → g' 5 = .p (some (P, 0)) → H[Rr]? = some (.cells zCells false tR) → UOb H P tP u a c z → (∀ off, a ≠ some (Rr, off)) → Keeps h H → Un M k (.ex 0) (frL 73 g') H Q) :
    ∀ (n i : Nat) (g : Nat → V) (H : Heap) (u : U) (a : Option (Nat × Nat)) (c : Option Nat) (z : Nat), i + n = l.length → takeAll u (l.drop i) (ws.drop (1 + i)) = res → g 2 = .p (some (Rr, 0)) → g 4 = .sl (some (W, 0)) ws.length cw 1 → g 5 = .p (some (P, 0)) → g 54 = .p (some (I, 0)) →
      H[I]? = some (.str l i) → H[W]? = some (.cells (ws.map .s) false tW) → H[Rr]? = some (.cells zCells false tR) → UOb H P tP u a c z → (∀ off, a ≠ some (Rr, off)) → Keeps h H → Un M (.code (.loop l_trace_Parse_0) :: k) .nrm (frL 73 g) H Q := by
  intro n
  induction n with
  | zero =>
    intro i g H u a c z hi htk h2 h4 h5 h54 hI hW hR hu hna hk
    have : i = l.length := by omega
    subst this
    rw [List.drop_length, takeAll] at htk
    rw [Un_loop]
    simp only [go_sem, Nat.reduceLT, Nat.reduceLeDiff, Nat.reduceEqDiff, Nat.reduceAdd, Nat.reduceMul, Nat.reduceSub, Int.reduceLT, Int.reduceLE, Int.reduceEq, Int.reduceNe, Int.reduceToNat, Int.reduceAdd, Int.reduceSub, Int.reduceMul, Int.reduceNeg, Int.reduceBEq, Int.reduceBNe, Nat.reduceBEq, l_trace_Parse_0, h2, h4, h5, h54, hI, Nat.lt_irrefl]
    exact hex _ H u a c z htk.symm (by simp only [go_sem, Nat.reduceLT, Nat.reduceLeDiff, Nat.reduceEqDiff, Nat.reduceAdd, Nat.reduceMul, Nat.reduceSub, Int.reduceLT, Int.reduceLE, Int.reduceEq, Int.reduceNe, Int.reduceToNat, Int.reduceAdd, Int.reduceSub, Int.reduceMul, Int.reduceNeg, Int.reduceBEq, Int.reduceBNe, Nat.reduceBEq, h2]) (by simp only [go_sem, Nat.reduceLT, Nat.reduceLeDiff, Nat.reduceEqDiff, Nat.reduceAdd, Nat.reduceMul, Nat.reduceSub, Int.reduceLT, Int.reduceLE, Int.reduceEq, Int.reduceNe, Int.reduceToNat, Int.reduceAdd, Int.reduceSub, Int.reduceMul, Int.reduceNeg, Int.reduceBEq, Int.reduceBNe, Nat.reduceBEq, h5]) hR hu hna hk
  | succ n ih =>
    intro i g H u a c z hi htk h2 h4 h5 h54 hI hW hR hu hna hk
    have hlt : i < l.length := by omega
    have hltw : 1 + i < ws.length := by omega
    have hw := hl l[i] (List.getElem_mem hlt)
    have hasc : l[i].toNat < 128 := by
      simp only [List.mem_cons, List.not_mem_nil, or_false] at hw
      rcases hw with e | e | e | e | e | e <;> rw [e] <;> decide
    have hdec := dec_ascii hlt hasc
    have hk1 : Keeps h (H.set I (.str l (i + 1))) := hk.set iI _
    have hkg := hk1.gl hg
    have hu1 := hu.set hI (.str l (i + 1))
    have hI1 : (H.set I (.str l (i + 1)))[I]? = some (.str l (i + 1)) := set_same _ (by rw [hI]; rfl)
    have hW1 : (H.set I (.str l (i + 1)))[W]? = some (.cells (ws.map .s) false tW) := by rw [set_ne _ hWI]; exact hW
    have hR1 : (H.set I (.str l (i + 1)))[Rr]? = some (.cells zCells false tR) := by rw [set_ne _ hIR]; exact hR
    have hwi : (ws.map V.s)[1 + i]? = some (.s ws[1 + i]) := by simp [hltw]
    obtain ⟨_, H2, ht, hlen, hkeep, b, u', a', c', z', rfl, hu2, haa, e1, e2⟩ := s_take u l[i] ws[1 + i] (H.set I (.str l (i + 1))) P tP a c z hw hu1 hkg (hm _ (List.getElem_mem hltw))
    have hk2 : Keeps h H2 := ⟨by have := hk1.1; omega, fun j o hj => hkeep _ _ (hk1.2 _ _ hj) (by have := (List.getElem?_eq_some_iff.1 hj).1; omega)⟩
    have hR2 := hkeep _ _ hR1 hPR
    have hna2 : ∀ off, a' ≠ some (Rr, off) := fun off e => by
      rcases haa with rfl | haa
      · exact hna _ e
      · have := haa _ _ e
        have := (List.getElem?_eq_some_iff.1 hR1).1
        omega
    rw [List.drop_eq_getElem_cons hlt, List.drop_eq_getElem_cons hltw, takeAll] at htk
    rw [Un_loop]
    simp only [go_sem, Nat.reduceLT, Nat.reduceLeDiff, Nat.reduceEqDiff, Nat.reduceAdd, Nat.reduceMul, Nat.reduceSub, Int.reduceLT, Int.reduceLE, Int.reduceEq, Int.reduceNe, Int.reduceToNat, Int.reduceAdd, Int.reduceSub, Int.reduceMul, Int.reduceNeg, Int.reduceBEq, Int.reduceBNe, Nat.reduceBEq, l_trace_Parse_0, h2, h4, h5, h54, hI, hlt, hdec, hW, hW1, hwi, hltw, show IntKind.i64.wrap (1 + (i : Int)) = ((1 + i : Nat) : Int) from (by rw [wrap_i64 (by omega) (by omega)]; omega), Pc_to ht]
    cases b with
    | false =>
      rw [e2 rfl] at htk
      unfold zCells at hR2
      simp only [go_sem, Nat.reduceLT, Nat.reduceLeDiff, Nat.reduceEqDiff, Nat.reduceAdd, Nat.reduceMul, Nat.reduceSub, Int.reduceLT, Int.reduceLE, Int.reduceEq, Int.reduceNe, Int.reduceToNat, Int.reduceAdd, Int.reduceSub, Int.reduceMul, Int.reduceNeg, Int.reduceBEq, Int.reduceBNe, Nat.reduceBEq, h2, hR2]
      refine hret htk.symm _ _ (by simp only [go_sem, Nat.reduceLT, Nat.reduceLeDiff, Nat.reduceEqDiff, Nat.reduceAdd, Nat.reduceMul, Nat.reduceSub, Int.reduceLT, Int.reduceLE, Int.reduceEq, Int.reduceNe, Int.reduceToNat, Int.reduceAdd, Int.reduceSub, Int.reduceMul, Int.reduceNeg, Int.reduceBEq, Int.reduceBNe, Nat.reduceBEq, h2]) (by simp only [go_sem, Nat.reduceLT, Nat.reduceLeDiff, Nat.reduceEqDiff, Nat.reduceAdd, Nat.reduceMul, Nat.reduceSub, Int.reduceLT, Int.reduceLE, Int.reduceEq, Int.reduceNe, Int.reduceToNat, Int.reduceAdd, Int.reduceSub, Int.reduceMul, Int.reduceNeg, Int.reduceBEq, Int.reduceBNe, Nat.reduceBEq]) (set_same _ (by rw [hR2]; rfl)) (hk2.set iR _)
    | true =>
      rw [e1 rfl] at htk
      simp only [go_sem, Nat.reduceLT, Nat.reduceLeDiff, Nat.reduceEqDiff, Nat.reduceAdd, Nat.reduceMul, Nat.reduceSub, Int.reduceLT, Int.reduceLE, Int.reduceEq, Int.reduceNe, Int.reduceToNat, Int.reduceAdd, Int.reduceSub, Int.reduceMul, Int.reduceNeg, Int.reduceBEq, Int.reduceBNe, Nat.reduceBEq, Un_again]
      refine ih (i + 1) _ H2 u' a' c' z' (by omega) ?_ (by simp only [go_sem, Nat.reduceLT, Nat.reduceLeDiff, Nat.reduceEqDiff, Nat.reduceAdd, Nat.reduceMul, Nat.reduceSub, Int.reduceLT, Int.reduceLE, Int.reduceEq, Int.reduceNe, Int.reduceToNat, Int.reduceAdd, Int.reduceSub, Int.reduceMul, Int.reduceNeg, Int.reduceBEq, Int.reduceBNe, Nat.reduceBEq, h2]) (by simp only [go_sem, Nat.reduceLT, Nat.reduceLeDiff, Nat.reduceEqDiff, Nat.reduceAdd, Nat.reduceMul, Nat.reduceSub, Int.reduceLT, Int.reduceLE, Int.reduceEq, Int.reduceNe, Int.reduceToNat, Int.reduceAdd, Int.reduceSub, Int.reduceMul, Int.reduceNeg, Int.reduceBEq, Int.reduceBNe, Nat.reduceBEq, h4]) (by simp only [go_sem, Nat.reduceLT, Nat.reduceLeDiff, Nat.reduceEqDiff, Nat.reduceAdd, Nat.reduceMul, Nat.reduceSub, Int.reduceLT, Int.reduceLE, Int.reduceEq, Int.reduceNe, Int.reduceToNat, Int.reduceAdd, Int.reduceSub, Int.reduceMul, Int.reduceNeg, Int.reduceBEq, Int.reduceBNe, Nat.reduceBEq, h5]) (by simp only [go_sem, Nat.reduceLT, Nat.reduceLeDiff, Nat.reduceEqDiff, Nat.reduceAdd, Nat.reduceMul, Nat.reduceSub, Int.reduceLT, Int.reduceLE, Int.reduceEq, Int.reduceNe, Int.reduceToNat, Int.reduceAdd, Int.reduceSub, Int.reduceMul, Int.reduceNeg, Int.reduceBEq, Int.reduceBNe, Nat.reduceBEq, h54]) (hkeep _ _ hI1 hPI) (hkeep _ _ hW1 hWP) hR2 hu2 hna2 hk2
      exact htk
theorem app_over {h : Heap} {id off len c j : Nat} {vs : List V} {ro ro' : Bool} {ty ty' : Option Nat} {v : V} (bytes : Nat) (hid : h[id]? = some (.cells vs ro ty)) (hj : h[j]? = some (.cells [v] ro' ty')) (hl : off + len ≤ vs.length) (hc : c < len + 1) (hb : (len + 1) * bytes ≤ 35184372088832) (hb2 : len + 1 ≤ 35184372088832) :
    appendS h false 1 bytes (.sl (some (id, off)) len (some c) 1) (.sl (some (j, 0)) 1 (some 1) 1) = some (.sl (some (h.length, 0)) (len + 1) none 1, h ++ [.cells ((vs.drop off).take len ++ [v]) false none]) := by
  have hsrc : appSrc h false 1 (.sl (some (j, 0)) 1 (some 1) 1) = some (1, [v]) := by
    simp [appSrc, getCells, hj]
  have hg : getCells h id off (len * 1) = some ((vs.drop off).take len) := by
    simp [getCells, hid, hl]
  simp only [appendS, appendG, hsrc]
  rw [if_neg (by decide), if_neg (by omega)]
  simp only [ne_eq, not_true_eq_false, if_false, hg]
  rw [if_neg (by omega)]
/-- The unit whose text it is, if there is one: behind its words. -/
def parseW (k : Int) (self : Bool) (ws : List (List UInt8)) : Option U :=
  if k = 0 ∨ ws.length ≠ 1 + (hasL k).length then none else
  match takeAll { zeroU with kind := k, self := self } (hasL k) (ws.drop 1) with
  | some u => if okU u then some u else none
  | none => none
/-- The unit whose text it is, if there is one. -/
def parseP (s : List UInt8) : Option U :=
  if kindP ((splitL 32 s).headD []) = 3 ∧ (splitL 32 s).length = 4 ∧ (splitL 32 s).getD 2 [] = [115, 101, 108, 102] then
    parseW 3 true [(splitL 32 s).getD 0 [], (splitL 32 s).getD 1 [], (splitL 32 s).getD 3 []]
  else parseW (kindP ((splitL 32 s).headD [])) false (splitL 32 s)
def c_parseR : C := (.seq (.reg r_trace_Parse_6) (.seq (.seq (.reg r_trace_Parse_7) (.cond (.tm 51) (.seq (.reg r_trace_Parse_8) .ret) .skip)) (.seq (.seq (.reg r_trace_Parse_9) (.blk 0 (.loop l_trace_Parse_0))) (.seq (.seq (.reg r_trace_Parse_14) (.cond (.tm 70) (.seq (.reg r_trace_Parse_15) .ret) .skip)) (.seq (.reg r_trace_Parse_16) .ret)))))
theorem get_new0' {h : Heap} {o : Obj} : (h ++ [o])[h.length]? = some o := by rw [get_new0]; rfl
theorem W0 : W32 0 := by unfold W32; omega
theorem hasL_mem (k : Int) : ∀ w ∈ hasL k, w ∈ ([115, 110, 112, 109, 108, 100] : List UInt8) := by
  rcases kinds k with hk | hk
  · rcases hk with rfl | rfl | rfl | rfl | rfl | rfl | rfl | rfl | rfl | rfl | rfl | rfl | rfl | rfl | rfl <;> decide
  · have : hasL k = [] := by simp [hasL, hk]
    rw [this]; simp
theorem hasL_len (k : Int) : (hasL k).length ≤ 10 := by
  rcases kinds k with hk | hk
  · rcases hk with rfl | rfl | rfl | rfl | rfl | rfl | rfl | rfl | rfl | rfl | rfl | rfl | rfl | rfl | rfl <;> decide
  · have : hasL k = [] := by simp [hasL, hk]
    rw [this]; simp
theorem parse_rest {Q : X → List V → Heap → Prop} {h : Heap} {W P Rr : Nat} {ws : List (List UInt8)} {cw tW tR tP : Option Nat} {res : Option U} (k : Int) (self : Bool) (hg : glOk h = true)
    (hm : ∀ w ∈ ws, w.length ≤ 100000) (iP : h.length ≤ P) (iR : h.length ≤ Rr) (hPR : Rr ≠ P) (hWP : W ≠ P)
    (hret : res = none → ∀ g' H, g' 2 = .p (some (Rr, 0)) → g' 3 = .b false → H[Rr]? = some (.cells zCells false tR) → Keeps h H → Q .ret (frL 73 g') H)
    (hyes : ∀ g' H u a c z, res = some u → g' 2 = .p (some (Rr, 0)) → g' 3 = .b true → H[Rr]? = some (.cells (uCells u a c z) false tR) → R1 H a z (u.list.map (.i .u32)) → W32 u.n → W32 u.ps → W32 u.mr → (∀ x ∈ u.list, W32 x) → Keeps h H → Q .ret (frL 73 g') H)
    (hres : parseW k self ws = res) (hwl : ws.length ≤ 1000000)
    (g : Nat → V) (H : Heap) (h2 : g 2 = .p (some (Rr, 0))) (h4 : g 4 = .sl (some (W, 0)) ws.length cw 1) (h5 : g 5 = .p (some (P, 0)))
    (hW : H[W]? = some (.cells (ws.map .s) false tW)) (hR : H[Rr]? = some (.cells zCells false tR)) (hu : UOb H P tP { zeroU with kind := k, self := self } none (some 0) 0) (hk : Keeps h H) : Un M [.code c_parseR] .nrm (frL 73 g) H Q := by
  have hWl := (List.getElem?_eq_some_iff.1 hW).1
  have hRl := (List.getElem?_eq_some_iff.1 hR).1
  have hPl := (List.getElem?_eq_some_iff.1 hu.1).1
  have hPc := hu.1
  unfold uCells at hPc
  have hR' := hR
  unfold zCells at hR'
  have hhl := hasL_len k
  have hwr : IntKind.i64.wrap (1 + ((hasL k).length : Int)) = 1 + ((hasL k).length : Int) := wrap_i64 (by omega) (by omega)
  unfold parseW at hres
  simp only [go_sem, Nat.reduceLT, Nat.reduceLeDiff, Nat.reduceEqDiff, Nat.reduceAdd, Nat.reduceMul, Nat.reduceSub, Int.reduceLT, Int.reduceLE, Int.reduceEq, Int.reduceNe, Int.reduceToNat, Int.reduceAdd, Int.reduceSub, Int.reduceMul, Int.reduceNeg, Int.reduceBEq, Int.reduceBNe, Nat.reduceBEq, c_parseR, h2, h4, h5, hPc, Pc_to (s_has _ _)]
  by_cases hk0 : k = 0
  · rw [if_pos (.inl hk0)] at hres
    simp only [go_sem, Nat.reduceLT, Nat.reduceLeDiff, Nat.reduceEqDiff, Nat.reduceAdd, Nat.reduceMul, Nat.reduceSub, Int.reduceLT, Int.reduceLE, Int.reduceEq, Int.reduceNe, Int.reduceToNat, Int.reduceAdd, Int.reduceSub, Int.reduceMul, Int.reduceNeg, Int.reduceBEq, Int.reduceBNe, Nat.reduceBEq, hk0, h2, hR']
    exact hret hres.symm _ _ (by simp only [go_sem, Nat.reduceLT, Nat.reduceLeDiff, Nat.reduceEqDiff, Nat.reduceAdd, Nat.reduceMul, Nat.reduceSub, Int.reduceLT, Int.reduceLE, Int.reduceEq, Int.reduceNe, Int.reduceToNat, Int.reduceAdd, Int.reduceSub, Int.reduceMul, Int.reduceNeg, Int.reduceBEq, Int.reduceBNe, Nat.reduceBEq, h2]) (by simp only [go_sem, Nat.reduceLT, Nat.reduceLeDiff, Nat.reduceEqDiff, Nat.reduceAdd, Nat.reduceMul, Nat.reduceSub, Int.reduceLT, Int.reduceLE, Int.reduceEq, Int.reduceNe, Int.reduceToNat, Int.reduceAdd, Int.reduceSub, Int.reduceMul, Int.reduceNeg, Int.reduceBEq, Int.reduceBNe, Nat.reduceBEq]) (set_same _ (by rw [hR]; rfl)) (hk.set iR _)
  by_cases hlen : ws.length = 1 + (hasL k).length
  · rw [if_neg (by omega)] at hres
    have hlz : ((ws.length : Int) = 1 + ((hasL k).length : Int)) := by omega
    simp only [go_sem, Nat.reduceLT, Nat.reduceLeDiff, Nat.reduceEqDiff, Nat.reduceAdd, Nat.reduceMul, Nat.reduceSub, Int.reduceLT, Int.reduceLE, Int.reduceEq, Int.reduceNe, Int.reduceToNat, Int.reduceAdd, Int.reduceSub, Int.reduceMul, Int.reduceNeg, Int.reduceBEq, Int.reduceBNe, Nat.reduceBEq, hk0, h2, h4, h5, hwr, hlz]
    refine parse_loop (tR := tR) (tP := tP) (tW := tW) (cw := cw) (ws := ws) (res := takeAll { zeroU with kind := k, self := self } (hasL k) (ws.drop 1)) hg (hasL_mem k) hhl hlen hm iP hk.1 iR (by omega) hPR (by omega) hWP (by omega) ?_ ?_ (hasL k).length 0 _ _ { zeroU with kind := k, self := self } none (some 0) 0 (by omega) rfl (by simp only [go_sem, Nat.reduceLT, Nat.reduceLeDiff, Nat.reduceEqDiff, Nat.reduceAdd, Nat.reduceMul, Nat.reduceSub, Int.reduceLT, Int.reduceLE, Int.reduceEq, Int.reduceNe, Int.reduceToNat, Int.reduceAdd, Int.reduceSub, Int.reduceMul, Int.reduceNeg, Int.reduceBEq, Int.reduceBNe, Nat.reduceBEq, h2]) (by simp only [go_sem, Nat.reduceLT, Nat.reduceLeDiff, Nat.reduceEqDiff, Nat.reduceAdd, Nat.reduceMul, Nat.reduceSub, Int.reduceLT, Int.reduceLE, Int.reduceEq, Int.reduceNe, Int.reduceToNat, Int.reduceAdd, Int.reduceSub, Int.reduceMul, Int.reduceNeg, Int.reduceBEq, Int.reduceBNe, Nat.reduceBEq, h4]) (by simp only [go_sem, Nat.reduceLT, Nat.reduceLeDiff, Nat.reduceEqDiff, Nat.reduceAdd, Nat.reduceMul, Nat.reduceSub, Int.reduceLT, Int.reduceLE, Int.reduceEq, Int.reduceNe, Int.reduceToNat, Int.reduceAdd, Int.reduceSub, Int.reduceMul, Int.reduceNeg, Int.reduceBEq, Int.reduceBNe, Nat.reduceBEq, h5]) (by simp only [go_sem, Nat.reduceLT, Nat.reduceLeDiff, Nat.reduceEqDiff, Nat.reduceAdd, Nat.reduceMul, Nat.reduceSub, Int.reduceLT, Int.reduceLE, Int.reduceEq, Int.reduceNe, Int.reduceToNat, Int.reduceAdd, Int.reduceSub, Int.reduceMul, Int.reduceNeg, Int.reduceBEq, Int.reduceBNe, Nat.reduceBEq]) get_new0' (by rw [get_old _ (by rw [hW]; rfl)]; exact hW) (by rw [get_old _ (by rw [hR]; rfl)]; exact hR) ?_ (by simp) (hk.apps _)
    · intro e g' H2 e2 e3 e4 e5
      rw [e] at hres
      simp only [go_sem, Nat.reduceLT, Nat.reduceLeDiff, Nat.reduceEqDiff, Nat.reduceAdd, Nat.reduceMul, Nat.reduceSub, Int.reduceLT, Int.reduceLE, Int.reduceEq, Int.reduceNe, Int.reduceToNat, Int.reduceAdd, Int.reduceSub, Int.reduceMul, Int.reduceNeg, Int.reduceBEq, Int.reduceBNe, Nat.reduceBEq]
      exact hret hres.symm g' H2 e2 e3 e4 e5
    · intro g' H2 u a c z e e2 e5 eR hu2 hna ek
      obtain ⟨hP2, hRl2, hne, w1, w2, w3, w4, w5⟩ := hu2
      rw [e] at hres
      unfold uCells at hP2
      unfold zCells at eR
      obtain ⟨_, h3, ht, e0, os, rfl, rfl, he⟩ := s_pCheck u H2 a c z hRl2 (by omega) w1 w2 w3 w4
      unfold uV at ht
      have hP3 := (Keeps.app H2 os).2 _ _ hP2
      have hR3 := (Keeps.app H2 os).2 _ _ eR
      by_cases ho : okU u
      · have he0 : e0 = 0 := he.2 ho
        subst he0
        simp only [go_sem, Nat.reduceLT, Nat.reduceLeDiff, Nat.reduceEqDiff, Nat.reduceAdd, Nat.reduceMul, Nat.reduceSub, Int.reduceLT, Int.reduceLE, Int.reduceEq, Int.reduceNe, Int.reduceToNat, Int.reduceAdd, Int.reduceSub, Int.reduceMul, Int.reduceNeg, Int.reduceBEq, Int.reduceBNe, Nat.reduceBEq, e2, e5, hP2, Pc_to ht, hP3, hR3]
        simp only [if_pos ho] at hres
        refine hyes _ _ u a c z hres.symm (by simp only [go_sem, Nat.reduceLT, Nat.reduceLeDiff, Nat.reduceEqDiff, Nat.reduceAdd, Nat.reduceMul, Nat.reduceSub, Int.reduceLT, Int.reduceLE, Int.reduceEq, Int.reduceNe, Int.reduceToNat, Int.reduceAdd, Int.reduceSub, Int.reduceMul, Int.reduceNeg, Int.reduceBEq, Int.reduceBNe, Nat.reduceBEq, e2]) (by simp only [go_sem, Nat.reduceLT, Nat.reduceLeDiff, Nat.reduceEqDiff, Nat.reduceAdd, Nat.reduceMul, Nat.reduceSub, Int.reduceLT, Int.reduceLE, Int.reduceEq, Int.reduceNe, Int.reduceToNat, Int.reduceAdd, Int.reduceSub, Int.reduceMul, Int.reduceNeg, Int.reduceBEq, Int.reduceBNe, Nat.reduceBEq]) (set_same _ (by rw [hR3]; rfl)) ?_ w1 w2 w3 w4 ((ek.apps os).set iR _)
        exact (hRl2.keeps (Keeps.app _ os)).set hna _
      · have he0 : ¬ (e0 = 0) := fun e => ho (he.1 e)
        simp only [go_sem, Nat.reduceLT, Nat.reduceLeDiff, Nat.reduceEqDiff, Nat.reduceAdd, Nat.reduceMul, Nat.reduceSub, Int.reduceLT, Int.reduceLE, Int.reduceEq, Int.reduceNe, Int.reduceToNat, Int.reduceAdd, Int.reduceSub, Int.reduceMul, Int.reduceNeg, Int.reduceBEq, Int.reduceBNe, Nat.reduceBEq, e2, e5, hP2, Pc_to ht, hP3, hR3, he0]
        simp only [if_neg ho] at hres
        exact hret hres.symm _ _ (by simp only [go_sem, Nat.reduceLT, Nat.reduceLeDiff, Nat.reduceEqDiff, Nat.reduceAdd, Nat.reduceMul, Nat.reduceSub, Int.reduceLT, Int.reduceLE, Int.reduceEq, Int.reduceNe, Int.reduceToNat, Int.reduceAdd, Int.reduceSub, Int.reduceMul, Int.reduceNeg, Int.reduceBEq, Int.reduceBNe, Nat.reduceBEq, e2]) (by simp only [go_sem, Nat.reduceLT, Nat.reduceLeDiff, Nat.reduceEqDiff, Nat.reduceAdd, Nat.reduceMul, Nat.reduceSub, Int.reduceLT, Int.reduceLE, Int.reduceEq, Int.reduceNe, Int.reduceToNat, Int.reduceAdd, Int.reduceSub, Int.reduceMul, Int.reduceNeg, Int.reduceBEq, Int.reduceBNe, Nat.reduceBEq]) (set_same _ (by rw [hR3]; rfl)) ((ek.apps os).set iR _)
    · obtain ⟨q1, q2, q3⟩ := hu
      exact ⟨(Keeps.app _ _).2 _ _ q1, q2.keeps (Keeps.app _ _), q3⟩
  · rw [if_pos (.inr hlen)] at hres
    have hlz : ¬ ((ws.length : Int) = 1 + ((hasL k).length : Int)) := by omega
    simp only [go_sem, Nat.reduceLT, Nat.reduceLeDiff, Nat.reduceEqDiff, Nat.reduceAdd, Nat.reduceMul, Nat.reduceSub, Int.reduceLT, Int.reduceLE, Int.reduceEq, Int.reduceNe, Int.reduceToNat, Int.reduceAdd, Int.reduceSub, Int.reduceMul, Int.reduceNeg, Int.reduceBEq, Int.reduceBNe, Nat.reduceBEq, hk0, h2, h4, h5, hwr, hlz, hR']
    exact hret hres.symm _ _ (by simp only [go_sem, Nat.reduceLT, Nat.reduceLeDiff, Nat.reduceEqDiff, Nat.reduceAdd, Nat.reduceMul, Nat.reduceSub, Int.reduceLT, Int.reduceLE, Int.reduceEq, Int.reduceNe, Int.reduceToNat, Int.reduceAdd, Int.reduceSub, Int.reduceMul, Int.reduceNeg, Int.reduceBEq, Int.reduceBNe, Nat.reduceBEq, h2]) (by simp only [go_sem, Nat.reduceLT, Nat.reduceLeDiff, Nat.reduceEqDiff, Nat.reduceAdd, Nat.reduceMul, Nat.reduceSub, Int.reduceLT, Int.reduceLE, Int.reduceEq, Int.reduceNe, Int.reduceToNat, Int.reduceAdd, Int.reduceSub, Int.reduceMul, Int.reduceNeg, Int.reduceBEq, Int.reduceBNe, Nat.reduceBEq]) (set_same _ (by rw [hR]; rfl)) (hk.set iR _)
theorem parse_all (s : List UInt8) (h : Heap) (hg : glOk h = true) (hl : s.length ≤ 100000) {Q : X → List V → Heap → Prop} {res : Option U} (hres : parseP s = res)
    (hret : res = none → ∀ g' H tR, g' 2 = .p (some (h.length, 0)) → g' 3 = .b false → H[h.length]? = some (.cells zCells false tR) → Keeps h H → Q .ret (frL 73 g') H)
    (hyes : ∀ g' H u a c z tR, res = some u → g' 2 = .p (some (h.length, 0)) → g' 3 = .b true → H[h.length]? = some (.cells (uCells u a c z) false tR) → R1 H a z (u.list.map (.i .u32)) → W32 u.n → W32 u.ps → W32 u.mr → (∀ x ∈ u.list, W32 x) → Keeps h H → Q .ret (frL 73 g') H) :
    Un M [.code b_trace_Parse] .nrm (frL 73 (ar [.s s])) h Q := by
  have hwl := splitL_len 32 s
  have hwm : ∀ w ∈ splitL 32 s, w.length ≤ 100000 := fun w hw => by have := splitL_mem 32 s w hw; omega
  have hwne := splitL_ne 32 s
  unfold parseP at hres
  rw [show b_trace_Parse = (.seq (.reg r_trace_Parse_0) (.seq (.reg r_trace_Parse_1) (.seq (.reg r_trace_Parse_2) (.seq (.seq (.reg r_trace_Parse_3) (.cond (.tm 29) (.seq (.reg r_trace_Parse_4) (.draw r_trace_Parse_5 [] [])) .skip)) c_parseR)))) from rfl]
  simp only [go_sem, Nat.reduceLT, Nat.reduceLeDiff, Nat.reduceEqDiff, Nat.reduceAdd, Nat.reduceMul, Nat.reduceSub, Int.reduceLT, Int.reduceLE, Int.reduceEq, Int.reduceNe, Int.reduceToNat, Int.reduceAdd, Int.reduceSub, Int.reduceMul, Int.reduceNeg, Int.reduceBEq, Int.reduceBNe, Nat.reduceBEq]
  refine Pc_of (s_Split 32 s _ ((Keeps.app _ _).gl hg) (by omega)) ?_
  generalize splitL 32 s = ws at *
  obtain ⟨w0, wr, rfl⟩ : ∃ w0 wr, ws = w0 :: wr := by cases ws with | nil => exact absurd rfl hwne | cons a b => exact ⟨a, b, rfl⟩
  simp only [go_sem, Nat.reduceLT, Nat.reduceLeDiff, Nat.reduceEqDiff, Nat.reduceAdd, Nat.reduceMul, Nat.reduceSub, Int.reduceLT, Int.reduceLE, Int.reduceEq, Int.reduceNe, Int.reduceToNat, Int.reduceAdd, Int.reduceSub, Int.reduceMul, Int.reduceNeg, Int.reduceBEq, Int.reduceBNe, Nat.reduceBEq, Nat.zero_lt_succ]
  refine Pc_ofK (s_kind _ _) fun H1 hk1 => ?_
  have hP1 := hk1.2 h.length _ (get_new0 _)
  have hW1 := hk1.2 _ _ (get_new _ 1)
  have hl1 := hk1.1
  simp only [List.length_append, List.length_cons, List.length_nil] at hl1
  have hkh : Keeps h H1 := (Keeps.app _ _).trans hk1
  simp only [go_sem, Nat.reduceLT, Nat.reduceLeDiff, Nat.reduceEqDiff, Nat.reduceAdd, Nat.reduceMul, Nat.reduceSub, Int.reduceLT, Int.reduceLE, Int.reduceEq, Int.reduceNe, Int.reduceToNat, Int.reduceAdd, Int.reduceSub, Int.reduceMul, Int.reduceNeg, Int.reduceBEq, Int.reduceBNe, Nat.reduceBEq, Nat.zero_lt_succ]
  by_cases e3 : kindP w0 = 3
  · by_cases e4 : wr.length + 1 = 4
    · obtain ⟨w1, w2, w3, rfl⟩ : ∃ w1 w2 w3, wr = [w1, w2, w3] := by
        match wr, e4 with
        | [a, b, c], _ => exact ⟨a, b, c, rfl⟩
      by_cases e5 : w2 = [115, 101, 108, 102]
      · subst e5
        have hc : (kindP ((w0 :: [w1, [115, 101, 108, 102], w3]).headD []) = 3 ∧ (w0 :: [w1, [115, 101, 108, 102], w3]).length = 4 ∧ (w0 :: [w1, [115, 101, 108, 102], w3]).getD 2 [] = [115, 101, 108, 102]) := ⟨e3, rfl, rfl⟩
        rw [if_pos hc] at hres
        simp only [go_sem, Nat.reduceLT, Nat.reduceLeDiff, Nat.reduceEqDiff, Nat.reduceAdd, Nat.reduceMul, Nat.reduceSub, Int.reduceLT, Int.reduceLE, Int.reduceEq, Int.reduceNe, Int.reduceToNat, Int.reduceAdd, Int.reduceSub, Int.reduceMul, Int.reduceNeg, Int.reduceBEq, Int.reduceBNe, Nat.reduceBEq, e3, List.length_cons, List.length_nil, hW1]
        rw [app_over (v := .s w3) (c := 2) (len := 2) (off := 0) 16 ((Keeps.app H1 _).2 _ _ hW1) (get_new _ 1) (by simp) (by omega) (by omega) (by omega)]
        simp only [go_sem, Nat.reduceLT, Nat.reduceLeDiff, Nat.reduceEqDiff, Nat.reduceAdd, Nat.reduceMul, Nat.reduceSub, Int.reduceLT, Int.reduceLE, Int.reduceEq, Int.reduceNe, Int.reduceToNat, Int.reduceAdd, Int.reduceSub, Int.reduceMul, Int.reduceNeg, Int.reduceBEq, Int.reduceBNe, Nat.reduceBEq]
        refine parse_rest (tP := _) 3 true hg (fun w hw => hwm w (by simp at hw ⊢; rcases hw with rfl | rfl | rfl <;> simp)) (P := H1.length) (Rr := h.length) (W := H1.length + 2) (tW := none) (cw := none) (ws := [w0, w1, w3]) hkh.1 (Nat.le_refl _) (by omega) (by omega) (fun e g' H => hret e g' H _) (fun g' H u a c z => hyes g' H u a c z _) hres (by simp) _ _ (by simp only [go_sem, Nat.reduceLT, Nat.reduceLeDiff, Nat.reduceEqDiff, Nat.reduceAdd, Nat.reduceMul, Nat.reduceSub, Int.reduceLT, Int.reduceLE, Int.reduceEq, Int.reduceNe, Int.reduceToNat, Int.reduceAdd, Int.reduceSub, Int.reduceMul, Int.reduceNeg, Int.reduceBEq, Int.reduceBNe, Nat.reduceBEq]) (by simp only [go_sem, Nat.reduceLT, Nat.reduceLeDiff, Nat.reduceEqDiff, Nat.reduceAdd, Nat.reduceMul, Nat.reduceSub, Int.reduceLT, Int.reduceLE, Int.reduceEq, Int.reduceNe, Int.reduceToNat, Int.reduceAdd, Int.reduceSub, Int.reduceMul, Int.reduceNeg, Int.reduceBEq, Int.reduceBNe, Nat.reduceBEq]) (by simp only [go_sem, Nat.reduceLT, Nat.reduceLeDiff, Nat.reduceEqDiff, Nat.reduceAdd, Nat.reduceMul, Nat.reduceSub, Int.reduceLT, Int.reduceLE, Int.reduceEq, Int.reduceNe, Int.reduceToNat, Int.reduceAdd, Int.reduceSub, Int.reduceMul, Int.reduceNeg, Int.reduceBEq, Int.reduceBNe, Nat.reduceBEq]) (show _ = some _ from get_new _ 2) (by rw [get_old _ (by rw [hP1]; rfl)]; exact hP1) ⟨show _ = some _ from get_new0 _, rfl, (fun off e => by cases e), W0, W0, W0, (fun x hx => by cases hx), Nat.zero_le _⟩ (hkh.apps _)
      · have hc : ¬ (kindP ((w0 :: [w1, w2, w3]).headD []) = 3 ∧ (w0 :: [w1, w2, w3]).length = 4 ∧ (w0 :: [w1, w2, w3]).getD 2 [] = [115, 101, 108, 102]) := fun e => e5 e.2.2
        rw [if_neg hc] at hres
        simp only [go_sem, Nat.reduceLT, Nat.reduceLeDiff, Nat.reduceEqDiff, Nat.reduceAdd, Nat.reduceMul, Nat.reduceSub, Int.reduceLT, Int.reduceLE, Int.reduceEq, Int.reduceNe, Int.reduceToNat, Int.reduceAdd, Int.reduceSub, Int.reduceMul, Int.reduceNeg, Int.reduceBEq, Int.reduceBNe, Nat.reduceBEq, e3, List.length_cons, List.length_nil, hW1, e5]
        rw [show kindP ((w0 :: [w1, w2, w3]).headD []) = 3 from e3] at hres
        refine parse_rest (tP := _) 3 false hg hwm (P := H1.length) (Rr := h.length) (W := h.length + 1) (tW := none) (cw := some 4) (ws := ([w0, w1, w2, w3])) hkh.1 (Nat.le_refl _) (by omega) (by omega) (fun e g' H => hret e g' H _) (fun g' H u a c z => hyes g' H u a c z _) hres (by simp) _ _ (by simp only [go_sem, Nat.reduceLT, Nat.reduceLeDiff, Nat.reduceEqDiff, Nat.reduceAdd, Nat.reduceMul, Nat.reduceSub, Int.reduceLT, Int.reduceLE, Int.reduceEq, Int.reduceNe, Int.reduceToNat, Int.reduceAdd, Int.reduceSub, Int.reduceMul, Int.reduceNeg, Int.reduceBEq, Int.reduceBNe, Nat.reduceBEq]) (by simp only [go_sem, Nat.reduceLT, Nat.reduceLeDiff, Nat.reduceEqDiff, Nat.reduceAdd, Nat.reduceMul, Nat.reduceSub, Int.reduceLT, Int.reduceLE, Int.reduceEq, Int.reduceNe, Int.reduceToNat, Int.reduceAdd, Int.reduceSub, Int.reduceMul, Int.reduceNeg, Int.reduceBEq, Int.reduceBNe, Nat.reduceBEq]) (by simp only [go_sem, Nat.reduceLT, Nat.reduceLeDiff, Nat.reduceEqDiff, Nat.reduceAdd, Nat.reduceMul, Nat.reduceSub, Int.reduceLT, Int.reduceLE, Int.reduceEq, Int.reduceNe, Int.reduceToNat, Int.reduceAdd, Int.reduceSub, Int.reduceMul, Int.reduceNeg, Int.reduceBEq, Int.reduceBNe, Nat.reduceBEq]) ((Keeps.app H1 _).2 _ _ hW1) (by rw [get_old _ (by rw [hP1]; rfl)]; exact hP1) ⟨get_new0', rfl, (fun off e => by cases e), W0, W0, W0, (fun x hx => by cases hx), Nat.zero_le _⟩ (hkh.apps _)
    · have e4' : ¬ ((((wr.length + 1 : Nat)) : Int) = 4) := by omega
      have hc : ¬ (kindP ((w0 :: wr).headD []) = 3 ∧ (w0 :: wr).length = 4 ∧ (w0 :: wr).getD 2 [] = [115, 101, 108, 102]) := fun e => e4 e.2.1
      rw [if_neg hc] at hres
      simp only [go_sem, Nat.reduceLT, Nat.reduceLeDiff, Nat.reduceEqDiff, Nat.reduceAdd, Nat.reduceMul, Nat.reduceSub, Int.reduceLT, Int.reduceLE, Int.reduceEq, Int.reduceNe, Int.reduceToNat, Int.reduceAdd, Int.reduceSub, Int.reduceMul, Int.reduceNeg, Int.reduceBEq, Int.reduceBNe, Nat.reduceBEq, e3, e4']
      rw [show kindP ((w0 :: wr).headD []) = 3 from e3] at hres
      refine parse_rest (tP := _) 3 false hg hwm (P := H1.length) (Rr := h.length) (W := h.length + 1) (tW := none) (cw := some (wr.length + 1)) (ws := (w0 :: wr)) hkh.1 (Nat.le_refl _) (by omega) (by omega) (fun e g' H => hret e g' H _) (fun g' H u a c z => hyes g' H u a c z _) hres (by simp; simp at hwl; omega) _ _ (by simp only [go_sem, Nat.reduceLT, Nat.reduceLeDiff, Nat.reduceEqDiff, Nat.reduceAdd, Nat.reduceMul, Nat.reduceSub, Int.reduceLT, Int.reduceLE, Int.reduceEq, Int.reduceNe, Int.reduceToNat, Int.reduceAdd, Int.reduceSub, Int.reduceMul, Int.reduceNeg, Int.reduceBEq, Int.reduceBNe, Nat.reduceBEq]) (by simp only [go_sem, Nat.reduceLT, Nat.reduceLeDiff, Nat.reduceEqDiff, Nat.reduceAdd, Nat.reduceMul, Nat.reduceSub, Int.reduceLT, Int.reduceLE, Int.reduceEq, Int.reduceNe, Int.reduceToNat, Int.reduceAdd, Int.reduceSub, Int.reduceMul, Int.reduceNeg, Int.reduceBEq, Int.reduceBNe, Nat.reduceBEq]) (by simp only [go_sem, Nat.reduceLT, Nat.reduceLeDiff, Nat.reduceEqDiff, Nat.reduceAdd, Nat.reduceMul, Nat.reduceSub, Int.reduceLT, Int.reduceLE, Int.reduceEq, Int.reduceNe, Int.reduceToNat, Int.reduceAdd, Int.reduceSub, Int.reduceMul, Int.reduceNeg, Int.reduceBEq, Int.reduceBNe, Nat.reduceBEq]) ((Keeps.app H1 _).2 _ _ hW1) (by rw [get_old _ (by rw [hP1]; rfl)]; exact hP1) ⟨get_new0', rfl, (fun off e => by cases e), W0, W0, W0, (fun x hx => by cases hx), Nat.zero_le _⟩ (hkh.apps _)
  · have hc : ¬ (kindP ((w0 :: wr).headD []) = 3 ∧ (w0 :: wr).length = 4 ∧ (w0 :: wr).getD 2 [] = [115, 101, 108, 102]) := fun e => e3 e.1
    rw [if_neg hc] at hres
    simp only [go_sem, Nat.reduceLT, Nat.reduceLeDiff, Nat.reduceEqDiff, Nat.reduceAdd, Nat.reduceMul, Nat.reduceSub, Int.reduceLT, Int.reduceLE, Int.reduceEq, Int.reduceNe, Int.reduceToNat, Int.reduceAdd, Int.reduceSub, Int.reduceMul, Int.reduceNeg, Int.reduceBEq, Int.reduceBNe, Nat.reduceBEq, e3]
    refine parse_rest (tP := _) (kindP w0) false hg hwm (P := H1.length) (Rr := h.length) (W := h.length + 1) (tW := none) (cw := some (wr.length + 1)) (ws := (w0 :: wr)) hkh.1 (Nat.le_refl _) (by omega) (by omega) (fun e g' H => hret e g' H _) (fun g' H u a c z => hyes g' H u a c z _) hres (by simp; simp at hwl; omega) _ _ (by simp only [go_sem, Nat.reduceLT, Nat.reduceLeDiff, Nat.reduceEqDiff, Nat.reduceAdd, Nat.reduceMul, Nat.reduceSub, Int.reduceLT, Int.reduceLE, Int.reduceEq, Int.reduceNe, Int.reduceToNat, Int.reduceAdd, Int.reduceSub, Int.reduceMul, Int.reduceNeg, Int.reduceBEq, Int.reduceBNe, Nat.reduceBEq]) (by simp only [go_sem, Nat.reduceLT, Nat.reduceLeDiff, Nat.reduceEqDiff, Nat.reduceAdd, Nat.reduceMul, Nat.reduceSub, Int.reduceLT, Int.reduceLE, Int.reduceEq, Int.reduceNe, Int.reduceToNat, Int.reduceAdd, Int.reduceSub, Int.reduceMul, Int.reduceNeg, Int.reduceBEq, Int.reduceBNe, Nat.reduceBEq]) (by simp only [go_sem, Nat.reduceLT, Nat.reduceLeDiff, Nat.reduceEqDiff, Nat.reduceAdd, Nat.reduceMul, Nat.reduceSub, Int.reduceLT, Int.reduceLE, Int.reduceEq, Int.reduceNe, Int.reduceToNat, Int.reduceAdd, Int.reduceSub, Int.reduceMul, Int.reduceNeg, Int.reduceBEq, Int.reduceBNe, Nat.reduceBEq]) ((Keeps.app H1 _).2 _ _ hW1) (by rw [get_old _ (by rw [hP1]; rfl)]; exact hP1) ⟨get_new0', rfl, (fun off e => by cases e), W0, W0, W0, (fun x hx => by cases hx), Nat.zero_le _⟩ (hkh.apps _)
theorem s_Parse (s : List UInt8) (h : Heap) (hg : glOk h = true) (hl : s.length ≤ 100000) :
    ∃ v h', To M n_trace_Parse [.s s] h v h' ∧ Keeps h h' ∧ ((∃ u a c z, parseP s = some u ∧ v = .t [uV u a c z, .b true] ∧ R1 h' a z (u.list.map (.i .u32)) ∧ W32 u.n ∧ W32 u.ps ∧ W32 u.mr ∧ (∀ x ∈ u.list, W32 x)) ∨ (parseP s = none ∧ v = .t [uV zeroU none (some 0) 0, .b false])) := by
  generalize hres : parseP s = res
  refine To_body' rfl F_trace_Parse (Nat.le_of_ble_eq_true rfl) ?_
  refine parse_all s h hg hl hres ?_ ?_
  · intro e g' H tR h2 h3 hR hk
    unfold zCells at hR
    refine ⟨.inr rfl, ?_⟩
    simp only [go_sem, Nat.reduceLT, Nat.reduceLeDiff, Nat.reduceEqDiff, Nat.reduceAdd, Nat.reduceMul, Nat.reduceSub, Int.reduceLT, Int.reduceLE, Int.reduceEq, Int.reduceNe, Int.reduceToNat, Int.reduceAdd, Int.reduceSub, Int.reduceMul, Int.reduceNeg, Int.reduceBEq, Int.reduceBNe, Nat.reduceBEq, h2, h3, hR]
    exact ⟨_, rfl, hk, .inr ⟨e, rfl⟩⟩
  · intro g' H u a c z tR e h2 h3 hR hR2 w1 w2 w3 w4 hk
    unfold uCells at hR
    refine ⟨.inr rfl, ?_⟩
    simp only [go_sem, Nat.reduceLT, Nat.reduceLeDiff, Nat.reduceEqDiff, Nat.reduceAdd, Nat.reduceMul, Nat.reduceSub, Int.reduceLT, Int.reduceLE, Int.reduceEq, Int.reduceNe, Int.reduceToNat, Int.reduceAdd, Int.reduceSub, Int.reduceMul, Int.reduceNeg, Int.reduceBEq, Int.reduceBNe, Nat.reduceBEq, h2, h3, hR]
    exact ⟨_, rfl, hk, .inl ⟨u, a, c, z, e, rfl, hR2, w1, w2, w3, w4⟩⟩
end Am
end Go.Proofs.YtjjkjfdojifchaaDoor
