/-
  WHAT THE FUNCTIONS COME TO, part 13: lists of numbers and bytes that are read.
  Conditions: none.
-/
import Derived.Test.YtjjkjfdojifchaaDoorSp12
set_option linter.unusedVariables false
set_option linter.unusedSimpArgs false
namespace Go.Proofs.YtjjkjfdojifchaaDoor
namespace Am
theorem s_OfAny (n : Int) (h : Heap) : To M n_seq_Of [.i .i64 n] h (.i .u32 (lo (IntKind.u32.wrap n))) h := by
  refine To_body rfl F_seq_Of (Nat.le_of_ble_eq_true rfl) ?_
  simp only [go_sem, Nat.reduceLT, Nat.reduceLeDiff, Nat.reduceEqDiff, Nat.reduceAdd, Nat.reduceMul, Nat.reduceSub, Int.reduceLT, Int.reduceLE, Int.reduceEq, Int.reduceNe, Int.reduceToNat, Int.reduceAdd, Int.reduceSub, Int.reduceMul, Int.reduceNeg, Int.reduceBEq, Int.reduceBNe, Nat.reduceBEq, b_seq_Of]
  rfl
theorem Of_low {n : Int} (hn : lowI n) : lo (IntKind.u32.wrap n) = n := by
  have := hn
  unfold lowI at this
  rw [wrap_u32 (by omega) (by omega), lo_low hn]
theorem numP_low {s p : List UInt8} {n : Int} (h : numP s p = some n) : lowI n := by
  unfold numP at h
  split at h
  · split at h
    · split at h
      · rename_i hc; injection h with h; subst h; exact ⟨hc.2.1, hc.2.2⟩
      · cases h
    · cases h
  · cases h
/-- All, or none. -/
def mapO {α β : Type} (f : α → Option β) : List α → Option (List β)
  | [] => some []
  | x :: r => match f x, mapO f r with | some y, some ys => some (y :: ys) | _, _ => none
theorem mapO_app {α β : Type} (f : α → Option β) (a b : List α) : mapO f (a ++ b) = match mapO f a, mapO f b with | some x, some y => some (x ++ y) | _, _ => none := by
  induction a with
  | nil => simp only [List.nil_append, mapO]; cases mapO f b <;> rfl
  | cons x a ih =>
    simp only [List.cons_append, mapO, ih]
    cases f x with
    | none => cases mapO f a <;> cases mapO f b <;> rfl
    | some y => cases mapO f a <;> cases mapO f b <;> rfl
/-- The numbers of a list's word. -/
def numsP (s : List UInt8) : Option (List Int) :=
  if s.take 1 = [108] then (if s.drop 1 = [45] then some [] else mapO (fun w => numP w []) (splitL 44 (s.drop 1))) else none
theorem splitL_ne (b : UInt8) (l : List UInt8) : splitL b l ≠ [] := by
  cases l with
  | nil => simp [splitL]
  | cons x r =>
    simp only [splitL]
    split
    · simp
    · split <;> simp
theorem splitL_len (b : UInt8) : ∀ (l : List UInt8), (splitL b l).length ≤ l.length + 1 := by
  intro l
  induction l with
  | nil => simp [splitL]
  | cons x r ih =>
    simp only [splitL]
    split
    · simp; omega
    · split
      · rename_i p ps e; rw [e] at ih; simp at ih ⊢; omega
      · simp
theorem splitL_mem (b : UInt8) : ∀ (l : List UInt8), ∀ w ∈ splitL b l, w.length ≤ l.length := by
  intro l
  induction l with
  | nil => simp [splitL]
  | cons x r ih =>
    intro w hw
    simp only [splitL] at hw
    split at hw
    · simp at hw
      rcases hw with rfl | hw
      · simp
      · have := ih w hw; simp; omega
    · split at hw
      · rename_i p ps e
        rw [e] at ih
        simp at hw
        rcases hw with rfl | hw
        · have := ih p (by simp); simp; omega
        · have := ih w (by simp [hw]); simp; omega
      · simp at hw; subst hw; simp
theorem nums_loop {k : List K} {Q : X → List V → Heap → Prop} {H0 : Heap} {W : Nat} {ws : List (List UInt8)} {c : Option Nat} (hW : H0[W]? = some (.cells (ws.map .s) false none)) (hl : ws.length ≤ 1000000) (hm : ∀ w ∈ ws, w.length ≤ 100000) (hg : glOk H0 = true)
    (hret : mapO (fun w => numP w []) ws = none → ∀ g' H, g' 2 = .sl none 0 (some 0) 0 → g' 3 = .b false → Keeps H0 H → Un M k .ret (frL 43 g') H Q)
    (hex : ∀ g' H x l, mapO (fun w => numP w []) ws = some l → g' 5 = x → SB H x (l.map (.i .u32)) → Off H0 x → l.length = ws.length → Keeps H0 H → Un M k (.ex 0) (frL 43 g') H Q) :
    ∀ (n i : Nat) (g : Nat → V) (H : Heap) (x : V) (l : List Int), i + n = ws.length → mapO (fun w => numP w []) (ws.take i) = some l → g 5 = x → g 23 = .sl (some (W, 0)) ws.length c 1 → g 24 = .i .i64 ws.length → g 25 = .i .i64 i → Keeps H0 H → SB H x (l.map (.i .u32)) → Off H0 x → l.length = i →
      Un M (.code (.loop l_trace_nums_0) :: k) .nrm (frL 43 g) H Q := by
  intro n
  induction n with
  | zero =>
    intro i g H x l hi hml h5 h23 h24 h25 hk hb ho hll
    have : i = ws.length := by omega
    subst this
    rw [List.take_length] at hml
    rw [Un_loop]
    simp only [go_sem, Nat.reduceLT, Nat.reduceLeDiff, Nat.reduceEqDiff, Nat.reduceAdd, Nat.reduceMul, Nat.reduceSub, Int.reduceLT, Int.reduceLE, Int.reduceEq, Int.reduceNe, Int.reduceToNat, Int.reduceAdd, Int.reduceSub, Int.reduceMul, Int.reduceNeg, Int.reduceBEq, Int.reduceBNe, Nat.reduceBEq, l_trace_nums_0, h5, h23, h24, h25, Int.lt_irrefl]
    exact hex _ H x l hml (by simp only [go_sem, Nat.reduceLT, Nat.reduceLeDiff, Nat.reduceEqDiff, Nat.reduceAdd, Nat.reduceMul, Nat.reduceSub, Int.reduceLT, Int.reduceLE, Int.reduceEq, Int.reduceNe, Int.reduceToNat, Int.reduceAdd, Int.reduceSub, Int.reduceMul, Int.reduceNeg, Int.reduceBEq, Int.reduceBNe, Nat.reduceBEq, h5]) hb ho hll hk
  | succ n ih =>
    intro i g H x l hi hml h5 h23 h24 h25 hk hb ho hll
    have hlt : i < ws.length := by omega
    have hWH := hk.2 _ _ hW
    have hwi : (ws.map V.s)[i]? = some (.s ws[i]) := by simp [hlt]
    obtain ⟨_, H1, ht, hk1, m, b, rfl, hb1, hb2⟩ := s_number ws[i] [] H (hk.gl hg) (hm _ (List.getElem_mem hlt))
    rw [Un_loop]
    simp only [go_sem, Nat.reduceLT, Nat.reduceLeDiff, Nat.reduceEqDiff, Nat.reduceAdd, Nat.reduceMul, Nat.reduceSub, Int.reduceLT, Int.reduceLE, Int.reduceEq, Int.reduceNe, Int.reduceToNat, Int.reduceAdd, Int.reduceSub, Int.reduceMul, Int.reduceNeg, Int.reduceBEq, Int.reduceBNe, Nat.reduceBEq, l_trace_nums_0, h5, h23, h24, h25, Int.ofNat_lt, hlt, hWH, hwi, Pc_to ht]
    cases b with
    | false =>
      simp only [go_sem, Nat.reduceLT, Nat.reduceLeDiff, Nat.reduceEqDiff, Nat.reduceAdd, Nat.reduceMul, Nat.reduceSub, Int.reduceLT, Int.reduceLE, Int.reduceEq, Int.reduceNe, Int.reduceToNat, Int.reduceAdd, Int.reduceSub, Int.reduceMul, Int.reduceNeg, Int.reduceBEq, Int.reduceBNe, Nat.reduceBEq]
      refine hret ?_ _ H1 (by simp only [go_sem, Nat.reduceLT, Nat.reduceLeDiff, Nat.reduceEqDiff, Nat.reduceAdd, Nat.reduceMul, Nat.reduceSub, Int.reduceLT, Int.reduceLE, Int.reduceEq, Int.reduceNe, Int.reduceToNat, Int.reduceAdd, Int.reduceSub, Int.reduceMul, Int.reduceNeg, Int.reduceBEq, Int.reduceBNe, Nat.reduceBEq]) (by simp only [go_sem, Nat.reduceLT, Nat.reduceLeDiff, Nat.reduceEqDiff, Nat.reduceAdd, Nat.reduceMul, Nat.reduceSub, Int.reduceLT, Int.reduceLE, Int.reduceEq, Int.reduceNe, Int.reduceToNat, Int.reduceAdd, Int.reduceSub, Int.reduceMul, Int.reduceNeg, Int.reduceBEq, Int.reduceBNe, Nat.reduceBEq]) (hk.trans hk1)
      have e1 : ws = ws.take i ++ ws[i] :: ws.drop (i + 1) := by rw [← List.drop_eq_getElem_cons hlt, List.take_append_drop]
      rw [e1, mapO_app]
      simp only [mapO, hb2 rfl]
      cases mapO (fun w => numP w []) (ws.take i) <;> rfl
    | true =>
      have hm1 := hb1 rfl
      have hlow := numP_low hm1
      have hb' : SB H1 x (l.map (.i .u32)) := by
        rcases hb with ⟨e, rfl⟩ | ⟨id, rfl, hid, hn⟩
        · exact .inl ⟨e, rfl⟩
        · exact .inr ⟨id, rfl, hk1.2 _ _ hid, hn⟩
      obtain ⟨H', he, hb'', hlen, hkeep⟩ := app1 hb' (.i .u32 m) 4 (by simp only [List.length_map]; omega) (by simp only [List.length_map]; omega)
      simp only [go_sem, Nat.reduceLT, Nat.reduceLeDiff, Nat.reduceEqDiff, Nat.reduceAdd, Nat.reduceMul, Nat.reduceSub, Int.reduceLT, Int.reduceLE, Int.reduceEq, Int.reduceNe, Int.reduceToNat, Int.reduceAdd, Int.reduceSub, Int.reduceMul, Int.reduceNeg, Int.reduceBEq, Int.reduceBNe, Nat.reduceBEq, h5, Pc_to (s_OfAny _ _), Of_low hlow, he, h25, wrap_next (show i ≤ 4611686018427387904 by omega), Un_again]
      have e1 : mapO (fun w => numP w []) (ws.take (i + 1)) = some (l ++ [m]) := by
        rw [List.take_succ_eq_append_getElem hlt, mapO_app, hml]
        simp [mapO, hm1]
      refine ih (i + 1) _ H' _ (l ++ [m]) (by omega) e1 (by simp only [go_sem, Nat.reduceLT, Nat.reduceLeDiff, Nat.reduceEqDiff, Nat.reduceAdd, Nat.reduceMul, Nat.reduceSub, Int.reduceLT, Int.reduceLE, Int.reduceEq, Int.reduceNe, Int.reduceToNat, Int.reduceAdd, Int.reduceSub, Int.reduceMul, Int.reduceNeg, Int.reduceBEq, Int.reduceBNe, Nat.reduceBEq]; rfl) (by simp only [go_sem, Nat.reduceLT, Nat.reduceLeDiff, Nat.reduceEqDiff, Nat.reduceAdd, Nat.reduceMul, Nat.reduceSub, Int.reduceLT, Int.reduceLE, Int.reduceEq, Int.reduceNe, Int.reduceToNat, Int.reduceAdd, Int.reduceSub, Int.reduceMul, Int.reduceNeg, Int.reduceBEq, Int.reduceBNe, Nat.reduceBEq, h23]) (by simp only [go_sem, Nat.reduceLT, Nat.reduceLeDiff, Nat.reduceEqDiff, Nat.reduceAdd, Nat.reduceMul, Nat.reduceSub, Int.reduceLT, Int.reduceLE, Int.reduceEq, Int.reduceNe, Int.reduceToNat, Int.reduceAdd, Int.reduceSub, Int.reduceMul, Int.reduceNeg, Int.reduceBEq, Int.reduceBNe, Nat.reduceBEq, h24]) (by simp only [go_sem, Nat.reduceLT, Nat.reduceLeDiff, Nat.reduceEqDiff, Nat.reduceAdd, Nat.reduceMul, Nat.reduceSub, Int.reduceLT, Int.reduceLE, Int.reduceEq, Int.reduceNe, Int.reduceToNat, Int.reduceAdd, Int.reduceSub, Int.reduceMul, Int.reduceNeg, Int.reduceBEq, Int.reduceBNe, Nat.reduceBEq]) (ho.keeps (hk.trans hk1) (by omega) hkeep) ?_ (Off.new (hk.trans hk1) _ _ _ _) (by simp; omega)
      rw [List.map_append]
      exact hb''
theorem s_nums (s : List UInt8) (h : Heap) (hg : glOk h = true) (hl : s.length ≤ 100000) :
    ∃ v h', To M n_trace_nums [.s s] h v h' ∧ Keeps h h' ∧ ∃ a c z l b, v = .t [.sl a l.length c z, .b b] ∧ R1 h' a z (l.map (.i .u32)) ∧ (∀ id off, a = some (id, off) → h.length ≤ id) ∧ l.length ≤ 100001 ∧ (∀ x ∈ l, lowI x) ∧ (b = true → numsP s = some l) ∧ (b = false → numsP s = none) := by
  refine To_body' rfl F_trace_nums (Nat.le_of_ble_eq_true rfl) ?_
  simp only [go_sem, Nat.reduceLT, Nat.reduceLeDiff, Nat.reduceEqDiff, Nat.reduceAdd, Nat.reduceMul, Nat.reduceSub, Int.reduceLT, Int.reduceLE, Int.reduceEq, Int.reduceNe, Int.reduceToNat, Int.reduceAdd, Int.reduceSub, Int.reduceMul, Int.reduceNeg, Int.reduceBEq, Int.reduceBNe, Nat.reduceBEq, b_trace_nums, Pc_to (s_CutPrefix _ _ _)]
  by_cases hp : s.take 1 = [108]
  · have hc : cutP s [108] = s.drop 1 := by rw [cutP]; exact if_pos hp
    by_cases hn : s.drop 1 = [45]
    · simp only [go_sem, Nat.reduceLT, Nat.reduceLeDiff, Nat.reduceEqDiff, Nat.reduceAdd, Nat.reduceMul, Nat.reduceSub, Int.reduceLT, Int.reduceLE, Int.reduceEq, Int.reduceNe, Int.reduceToNat, Int.reduceAdd, Int.reduceSub, Int.reduceMul, Int.reduceNeg, Int.reduceBEq, Int.reduceBNe, Nat.reduceBEq, hp, hc, hn]
      refine ⟨_, rfl, Keeps.refl _, none, _, _, [], _, rfl, rfl, (fun _ _ e => by cases e), (by simp), (by simp), fun _ => ?_, fun e => ?_⟩
      · rw [numsP, if_pos hp, if_pos hn]
      · cases e
    · simp only [go_sem, Nat.reduceLT, Nat.reduceLeDiff, Nat.reduceEqDiff, Nat.reduceAdd, Nat.reduceMul, Nat.reduceSub, Int.reduceLT, Int.reduceLE, Int.reduceEq, Int.reduceNe, Int.reduceToNat, Int.reduceAdd, Int.reduceSub, Int.reduceMul, Int.reduceNeg, Int.reduceBEq, Int.reduceBNe, Nat.reduceBEq, hp, hc, hn, Pc_to (s_Split 44 (s.drop 1) h hg (by rw [List.length_drop]; omega))]
      have hP : numsP s = mapO (fun w => numP w []) (splitL 44 (s.drop 1)) := by rw [numsP, if_pos hp, if_neg hn]
      refine nums_loop (H0 := h ++ [.cells ((splitL 44 (s.drop 1)).map .s) false none]) (W := h.length) (ws := splitL 44 (s.drop 1)) (c := some (splitL 44 (s.drop 1)).length) (get_new0 _) (by have := splitL_len 44 (s.drop 1); rw [List.length_drop] at this; omega) (fun w hw => by have := splitL_mem 44 (s.drop 1) w hw; rw [List.length_drop] at this; omega) ((Keeps.app _ _).gl hg) (fun hno g' H h2 h3 hk => ?_) (fun g' H x l hml h5 hb ho hll hk => ?_) (splitL 44 (s.drop 1)).length 0 _ _ (.sl none 0 (some 0) 0) [] (by omega) rfl ?_ ?_ ?_ ?_ (Keeps.refl _) (SB.nil _) (Off.nil _ _ _ _) rfl
      · simp only [go_sem, Nat.reduceLT, Nat.reduceLeDiff, Nat.reduceEqDiff, Nat.reduceAdd, Nat.reduceMul, Nat.reduceSub, Int.reduceLT, Int.reduceLE, Int.reduceEq, Int.reduceNe, Int.reduceToNat, Int.reduceAdd, Int.reduceSub, Int.reduceMul, Int.reduceNeg, Int.reduceBEq, Int.reduceBNe, Nat.reduceBEq, h2, h3]
        refine ⟨_, rfl, (Keeps.app _ _).trans hk, none, _, _, [], _, rfl, rfl, (fun _ _ e => by cases e), (by simp), (by simp), fun e => ?_, fun _ => ?_⟩
        · cases e
        · rw [hP, hno]
      · obtain ⟨a', c', z', rfl, hR'⟩ := hb.row
        rw [List.length_map] at h5
        simp only [go_sem, Nat.reduceLT, Nat.reduceLeDiff, Nat.reduceEqDiff, Nat.reduceAdd, Nat.reduceMul, Nat.reduceSub, Int.reduceLT, Int.reduceLE, Int.reduceEq, Int.reduceNe, Int.reduceToNat, Int.reduceAdd, Int.reduceSub, Int.reduceMul, Int.reduceNeg, Int.reduceBEq, Int.reduceBNe, Nat.reduceBEq, h5]
        have hlo : ∀ (ws : List (List UInt8)) (l : List Int), mapO (fun w => numP w []) ws = some l → ∀ x ∈ l, lowI x := by
          intro ws
          induction ws with
          | nil => intro l e x hx; simp [mapO] at e; subst e; simp at hx
          | cons w ws ih =>
            intro l e x hx
            simp only [mapO] at e
            split at e
            · rename_i y ys hy hys
              injection e with e
              subst e
              simp at hx
              rcases hx with rfl | hx
              · exact numP_low hy
              · exact ih _ hys x hx
            · cases e
        refine ⟨_, rfl, (Keeps.app _ _).trans hk, a', c', z', l, _, rfl, hR', fun id off e => ?_, ?_, hlo _ _ hml, fun _ => ?_, fun e => ?_⟩
        · have := ho id ⟨off, _, _, _, by rw [e]⟩
          simp at this
          omega
        · have := splitL_len 44 (s.drop 1)
          rw [List.length_drop] at this
          omega
        · rw [hP, hml]
        · cases e
      · (first | (simp only [go_sem, Nat.reduceLT, Nat.reduceLeDiff, Nat.reduceEqDiff, Nat.reduceAdd, Nat.reduceMul, Nat.reduceSub, Int.reduceLT, Int.reduceLE, Int.reduceEq, Int.reduceNe, Int.reduceToNat, Int.reduceAdd, Int.reduceSub, Int.reduceMul, Int.reduceNeg, Int.reduceBEq, Int.reduceBNe, Nat.reduceBEq]; done) | (simp only [go_sem, Nat.reduceLT, Nat.reduceLeDiff, Nat.reduceEqDiff, Nat.reduceAdd, Nat.reduceMul, Nat.reduceSub, Int.reduceLT, Int.reduceLE, Int.reduceEq, Int.reduceNe, Int.reduceToNat, Int.reduceAdd, Int.reduceSub, Int.reduceMul, Int.reduceNeg, Int.reduceBEq, Int.reduceBNe, Nat.reduceBEq]; rfl) | rfl)
      · (first | (simp only [go_sem, Nat.reduceLT, Nat.reduceLeDiff, Nat.reduceEqDiff, Nat.reduceAdd, Nat.reduceMul, Nat.reduceSub, Int.reduceLT, Int.reduceLE, Int.reduceEq, Int.reduceNe, Int.reduceToNat, Int.reduceAdd, Int.reduceSub, Int.reduceMul, Int.reduceNeg, Int.reduceBEq, Int.reduceBNe, Nat.reduceBEq]; done) | (simp only [go_sem, Nat.reduceLT, Nat.reduceLeDiff, Nat.reduceEqDiff, Nat.reduceAdd, Nat.reduceMul, Nat.reduceSub, Int.reduceLT, Int.reduceLE, Int.reduceEq, Int.reduceNe, Int.reduceToNat, Int.reduceAdd, Int.reduceSub, Int.reduceMul, Int.reduceNeg, Int.reduceBEq, Int.reduceBNe, Nat.reduceBEq]; rfl) | rfl)
      · (first | (simp only [go_sem, Nat.reduceLT, Nat.reduceLeDiff, Nat.reduceEqDiff, Nat.reduceAdd, Nat.reduceMul, Nat.reduceSub, Int.reduceLT, Int.reduceLE, Int.reduceEq, Int.reduceNe, Int.reduceToNat, Int.reduceAdd, Int.reduceSub, Int.reduceMul, Int.reduceNeg, Int.reduceBEq, Int.reduceBNe, Nat.reduceBEq]; done) | (simp only [go_sem, Nat.reduceLT, Nat.reduceLeDiff, Nat.reduceEqDiff, Nat.reduceAdd, Nat.reduceMul, Nat.reduceSub, Int.reduceLT, Int.reduceLE, Int.reduceEq, Int.reduceNe, Int.reduceToNat, Int.reduceAdd, Int.reduceSub, Int.reduceMul, Int.reduceNeg, Int.reduceBEq, Int.reduceBNe, Nat.reduceBEq]; rfl) | rfl)
      · (first | (simp only [go_sem, Nat.reduceLT, Nat.reduceLeDiff, Nat.reduceEqDiff, Nat.reduceAdd, Nat.reduceMul, Nat.reduceSub, Int.reduceLT, Int.reduceLE, Int.reduceEq, Int.reduceNe, Int.reduceToNat, Int.reduceAdd, Int.reduceSub, Int.reduceMul, Int.reduceNeg, Int.reduceBEq, Int.reduceBNe, Nat.reduceBEq]; done) | (simp only [go_sem, Nat.reduceLT, Nat.reduceLeDiff, Nat.reduceEqDiff, Nat.reduceAdd, Nat.reduceMul, Nat.reduceSub, Int.reduceLT, Int.reduceLE, Int.reduceEq, Int.reduceNe, Int.reduceToNat, Int.reduceAdd, Int.reduceSub, Int.reduceMul, Int.reduceNeg, Int.reduceBEq, Int.reduceBNe, Nat.reduceBEq]; rfl) | rfl)
  · simp only [go_sem, Nat.reduceLT, Nat.reduceLeDiff, Nat.reduceEqDiff, Nat.reduceAdd, Nat.reduceMul, Nat.reduceSub, Int.reduceLT, Int.reduceLE, Int.reduceEq, Int.reduceNe, Int.reduceToNat, Int.reduceAdd, Int.reduceSub, Int.reduceMul, Int.reduceNeg, Int.reduceBEq, Int.reduceBNe, Nat.reduceBEq, hp]
    refine ⟨_, rfl, Keeps.refl _, none, _, _, [], _, rfl, rfl, (fun _ _ e => by cases e), (by simp), (by simp), fun e => ?_, fun _ => ?_⟩
    · cases e
    · rw [numsP, if_neg hp]
/-! ### Bytes -/
def hexTab' : List UInt8 := [48, 49, 50, 51, 52, 53, 54, 55, 56, 57, 97, 98, 99, 100, 101, 102]
/-- A hex digit's number; below 0: none. -/
def hexV (c : UInt8) : Int := idxL c hexTab' 0
theorem hexV_fin : ∀ c : Fin 256, -1 ≤ hexV (UInt8.ofNat c.1) ∧ hexV (UInt8.ofNat c.1) ≤ 15 := by decide +kernel
theorem hexV_le (c : UInt8) : -1 ≤ hexV c ∧ hexV c ≤ 15 := by
  have := hexV_fin ⟨c.toNat, c.toNat_lt⟩
  simpa using this
theorem hexPair_fin : ∀ a b : Fin 16, IntKind.u8.wrap (IntKind.i64.wrap ((BitVec.ofInt IntKind.i64.bits (IntKind.i64.wrap ((a.1 : Int) * 2 ^ min 4 IntKind.i64.bits)) ||| BitVec.ofInt IntKind.i64.bits (b.1 : Int)).toNat : Int)) = ((UInt8.ofNat (16 * a.1 + b.1)).toNat : Int) := by decide +kernel
theorem hexPair {x y : Int} (hx : 0 ≤ x ∧ x ≤ 15) (hy : 0 ≤ y ∧ y ≤ 15) : IntKind.u8.wrap (IntKind.i64.wrap ((BitVec.ofInt IntKind.i64.bits (IntKind.i64.wrap (x * 2 ^ min 4 IntKind.i64.bits)) ||| BitVec.ofInt IntKind.i64.bits y).toNat : Int)) = ((UInt8.ofNat (16 * x.toNat + y.toNat)).toNat : Int) := by
  have := hexPair_fin ⟨x.toNat, by omega⟩ ⟨y.toNat, by omega⟩
  simp only [Int.toNat_of_nonneg hx.1, Int.toNat_of_nonneg hy.1] at this
  exact this
def unhexB : List UInt8 → Option (List UInt8)
  | x :: y :: r => if hexV x < 0 ∨ hexV y < 0 then none else (unhexB r).map (UInt8.ofNat (16 * (hexV x).toNat + (hexV y).toNat) :: ·)
  | _ => some []
/-- The bytes that a text says. -/
def unhexP (s : List UInt8) : Option (List UInt8) := if s = [45] then some [] else if s = [] ∨ s.length % 2 ≠ 0 then none else unhexB s
theorem unhex_loop {k : List K} {Q : X → List V → Heap → Prop} {H0 : Heap} {id : Nat} {s : List UInt8} (hL : s.length ≤ 100000)
    (hret : unhexB s = none → ∀ g' H, g' 2 = .s [] → g' 3 = .b false → Keeps H0 H → Un M k .ret (frL 46 g') H Q)
    (hex : ∀ g' H bs, unhexB s = some bs → g' 4 = .p (some (id, 0)) → BB H0 H id bs → Un M k (.ex 0) (frL 46 g') H Q) :
    ∀ (n i : Nat) (g : Nat → V) (H : Heap) (bs : List UInt8), s.length = i + 2 * n → unhexB s = (unhexB (s.drop i)).map (bs ++ ·) → bs.length ≤ i → g 0 = .s s → g 4 = .p (some (id, 0)) → g 5 = .i .i64 i → BB H0 H id bs → Un M (.code (.loop l_event_Unhex_0) :: k) .nrm (frL 46 g) H Q := by
  intro n
  induction n with
  | zero =>
    intro i g H bs hi hu hbl h0 h4 h5 hb
    have : i = s.length := by omega
    subst this
    rw [Un_loop]
    simp only [go_sem, Nat.reduceLT, Nat.reduceLeDiff, Nat.reduceEqDiff, Nat.reduceAdd, Nat.reduceMul, Nat.reduceSub, Int.reduceLT, Int.reduceLE, Int.reduceEq, Int.reduceNe, Int.reduceToNat, Int.reduceAdd, Int.reduceSub, Int.reduceMul, Int.reduceNeg, Int.reduceBEq, Int.reduceBNe, Nat.reduceBEq, l_event_Unhex_0, h0, h4, h5, Int.lt_irrefl]
    refine hex _ H bs ?_ (by simp only [go_sem, Nat.reduceLT, Nat.reduceLeDiff, Nat.reduceEqDiff, Nat.reduceAdd, Nat.reduceMul, Nat.reduceSub, Int.reduceLT, Int.reduceLE, Int.reduceEq, Int.reduceNe, Int.reduceToNat, Int.reduceAdd, Int.reduceSub, Int.reduceMul, Int.reduceNeg, Int.reduceBEq, Int.reduceBNe, Nat.reduceBEq, h4]) hb
    rw [hu, List.drop_length]; simp [unhexB]
  | succ n ih =>
    intro i g H bs hi hu hbl h0 h4 h5 hb
    have hlt : i < s.length := by omega
    have hlt1 : i + 1 < s.length := by omega
    have hg : s[i]? = some s[i] := List.getElem?_eq_getElem hlt
    have hg1 : s[i + 1]? = some s[i + 1] := List.getElem?_eq_getElem hlt1
    have hx := hexV_le s[i]
    have hy := hexV_le s[i + 1]
    have hd : s.drop i = s[i] :: s[i + 1] :: s.drop (i + 2) := by
      rw [List.drop_eq_getElem_cons hlt, List.drop_eq_getElem_cons hlt1]
    rw [hd, unhexB] at hu
    have ht1 := s_IndexByte hexTab' s[i] H
    have ht2 := s_IndexByte hexTab' s[i + 1] H
    rw [show idxL s[i] hexTab' 0 = hexV s[i] from rfl] at ht1
    rw [show idxL s[i + 1] hexTab' 0 = hexV s[i + 1] from rfl] at ht2
    unfold hexTab' at ht1 ht2
    rw [Un_loop]
    by_cases hbad : hexV s[i] < 0 ∨ hexV s[i + 1] < 0
    · rw [if_pos hbad] at hu
      by_cases hb1 : hexV s[i] < 0
      · simp only [go_sem, Nat.reduceLT, Nat.reduceLeDiff, Nat.reduceEqDiff, Nat.reduceAdd, Nat.reduceMul, Nat.reduceSub, Int.reduceLT, Int.reduceLE, Int.reduceEq, Int.reduceNe, Int.reduceToNat, Int.reduceAdd, Int.reduceSub, Int.reduceMul, Int.reduceNeg, Int.reduceBEq, Int.reduceBNe, Nat.reduceBEq, l_event_Unhex_0, h0, h4, h5, Int.ofNat_lt, hlt, hg, wrap_next (show i ≤ 4611686018427387904 by omega), hg1, Pc_to ht1, Pc_to ht2, hb1]
        exact hret (by rw [hu]; rfl) _ H (by simp only [go_sem, Nat.reduceLT, Nat.reduceLeDiff, Nat.reduceEqDiff, Nat.reduceAdd, Nat.reduceMul, Nat.reduceSub, Int.reduceLT, Int.reduceLE, Int.reduceEq, Int.reduceNe, Int.reduceToNat, Int.reduceAdd, Int.reduceSub, Int.reduceMul, Int.reduceNeg, Int.reduceBEq, Int.reduceBNe, Nat.reduceBEq]) (by simp only [go_sem, Nat.reduceLT, Nat.reduceLeDiff, Nat.reduceEqDiff, Nat.reduceAdd, Nat.reduceMul, Nat.reduceSub, Int.reduceLT, Int.reduceLE, Int.reduceEq, Int.reduceNe, Int.reduceToNat, Int.reduceAdd, Int.reduceSub, Int.reduceMul, Int.reduceNeg, Int.reduceBEq, Int.reduceBNe, Nat.reduceBEq]) hb.1
      · have hb2 : hexV s[i + 1] < 0 := by omega
        simp only [go_sem, Nat.reduceLT, Nat.reduceLeDiff, Nat.reduceEqDiff, Nat.reduceAdd, Nat.reduceMul, Nat.reduceSub, Int.reduceLT, Int.reduceLE, Int.reduceEq, Int.reduceNe, Int.reduceToNat, Int.reduceAdd, Int.reduceSub, Int.reduceMul, Int.reduceNeg, Int.reduceBEq, Int.reduceBNe, Nat.reduceBEq, l_event_Unhex_0, h0, h4, h5, Int.ofNat_lt, hlt, hg, wrap_next (show i ≤ 4611686018427387904 by omega), hg1, Pc_to ht1, Pc_to ht2, hb1, hb2]
        exact hret (by rw [hu]; rfl) _ H (by simp only [go_sem, Nat.reduceLT, Nat.reduceLeDiff, Nat.reduceEqDiff, Nat.reduceAdd, Nat.reduceMul, Nat.reduceSub, Int.reduceLT, Int.reduceLE, Int.reduceEq, Int.reduceNe, Int.reduceToNat, Int.reduceAdd, Int.reduceSub, Int.reduceMul, Int.reduceNeg, Int.reduceBEq, Int.reduceBNe, Nat.reduceBEq]) (by simp only [go_sem, Nat.reduceLT, Nat.reduceLeDiff, Nat.reduceEqDiff, Nat.reduceAdd, Nat.reduceMul, Nat.reduceSub, Int.reduceLT, Int.reduceLE, Int.reduceEq, Int.reduceNe, Int.reduceToNat, Int.reduceAdd, Int.reduceSub, Int.reduceMul, Int.reduceNeg, Int.reduceBEq, Int.reduceBNe, Nat.reduceBEq]) hb.1
    · rw [if_neg hbad] at hu
      have hb1 : ¬ hexV s[i] < 0 := by omega
      have hb2 : ¬ hexV s[i + 1] < 0 := by omega
      obtain ⟨_, H2, ht3, rfl, hbb⟩ := s_WriteByte hb (by omega) (UInt8.ofNat (16 * (hexV s[i]).toNat + (hexV s[i + 1]).toNat))
      simp only [go_sem, Nat.reduceLT, Nat.reduceLeDiff, Nat.reduceEqDiff, Nat.reduceAdd, Nat.reduceMul, Nat.reduceSub, Int.reduceLT, Int.reduceLE, Int.reduceEq, Int.reduceNe, Int.reduceToNat, Int.reduceAdd, Int.reduceSub, Int.reduceMul, Int.reduceNeg, Int.reduceBEq, Int.reduceBNe, Nat.reduceBEq, l_event_Unhex_0, h0, h4, h5, Int.ofNat_lt, hlt, hg, wrap_next (show i ≤ 4611686018427387904 by omega), hg1, Pc_to ht1, Pc_to ht2, hb1, hb2, hexPair (x := hexV s[i]) (y := hexV s[i + 1]) (by omega) (by omega), Pc_to ht3, wrap_i64 (x := (i : Int) + 2) (by omega) (by omega), Un_again]
      refine ih (i + 2) _ H2 (bs ++ [UInt8.ofNat (16 * (hexV s[i]).toNat + (hexV s[i + 1]).toNat)]) (by omega) ?_ (by simp; omega) (by simp only [go_sem, Nat.reduceLT, Nat.reduceLeDiff, Nat.reduceEqDiff, Nat.reduceAdd, Nat.reduceMul, Nat.reduceSub, Int.reduceLT, Int.reduceLE, Int.reduceEq, Int.reduceNe, Int.reduceToNat, Int.reduceAdd, Int.reduceSub, Int.reduceMul, Int.reduceNeg, Int.reduceBEq, Int.reduceBNe, Nat.reduceBEq, h0]) (by simp only [go_sem, Nat.reduceLT, Nat.reduceLeDiff, Nat.reduceEqDiff, Nat.reduceAdd, Nat.reduceMul, Nat.reduceSub, Int.reduceLT, Int.reduceLE, Int.reduceEq, Int.reduceNe, Int.reduceToNat, Int.reduceAdd, Int.reduceSub, Int.reduceMul, Int.reduceNeg, Int.reduceBEq, Int.reduceBNe, Nat.reduceBEq, h4]) (by simp only [go_sem, Nat.reduceLT, Nat.reduceLeDiff, Nat.reduceEqDiff, Nat.reduceAdd, Nat.reduceMul, Nat.reduceSub, Int.reduceLT, Int.reduceLE, Int.reduceEq, Int.reduceNe, Int.reduceToNat, Int.reduceAdd, Int.reduceSub, Int.reduceMul, Int.reduceNeg, Int.reduceBEq, Int.reduceBNe, Nat.reduceBEq]; rfl) hbb
      rw [hu]
      cases unhexB (s.drop (i + 2)) <;> simp
theorem s_Unhex (s : List UInt8) (h : Heap) (hL : s.length ≤ 100000) : ∃ v h', To M n_event_Unhex [.s s] h v h' ∧ Keeps h h' ∧ ∃ bs b, v = .t [.s bs, .b b] ∧ (b = true → unhexP s = some bs) ∧ (b = false → unhexP s = none) := by
  refine To_body' rfl F_event_Unhex (Nat.le_of_ble_eq_true rfl) ?_
  simp only [go_sem, Nat.reduceLT, Nat.reduceLeDiff, Nat.reduceEqDiff, Nat.reduceAdd, Nat.reduceMul, Nat.reduceSub, Int.reduceLT, Int.reduceLE, Int.reduceEq, Int.reduceNe, Int.reduceToNat, Int.reduceAdd, Int.reduceSub, Int.reduceMul, Int.reduceNeg, Int.reduceBEq, Int.reduceBNe, Nat.reduceBEq, b_event_Unhex]
  by_cases h1 : s = [45]
  · simp only [go_sem, Nat.reduceLT, Nat.reduceLeDiff, Nat.reduceEqDiff, Nat.reduceAdd, Nat.reduceMul, Nat.reduceSub, Int.reduceLT, Int.reduceLE, Int.reduceEq, Int.reduceNe, Int.reduceToNat, Int.reduceAdd, Int.reduceSub, Int.reduceMul, Int.reduceNeg, Int.reduceBEq, Int.reduceBNe, Nat.reduceBEq, h1]
    exact ⟨_, rfl, Keeps.refl _, [], true, rfl, (fun _ => by rw [unhexP, if_pos rfl]), (fun e => by cases e)⟩
  · by_cases h2 : s = []
    · simp only [go_sem, Nat.reduceLT, Nat.reduceLeDiff, Nat.reduceEqDiff, Nat.reduceAdd, Nat.reduceMul, Nat.reduceSub, Int.reduceLT, Int.reduceLE, Int.reduceEq, Int.reduceNe, Int.reduceToNat, Int.reduceAdd, Int.reduceSub, Int.reduceMul, Int.reduceNeg, Int.reduceBEq, Int.reduceBNe, Nat.reduceBEq, h1, h2]
      subst h2
      exact ⟨_, rfl, Keeps.refl _, [], false, rfl, (fun e => by cases e), (fun _ => by rw [unhexP, if_neg (by decide), if_pos (.inl rfl)])⟩
    · by_cases h3 : s.length % 2 = 0
      · simp only [go_sem, Nat.reduceLT, Nat.reduceLeDiff, Nat.reduceEqDiff, Nat.reduceAdd, Nat.reduceMul, Nat.reduceSub, Int.reduceLT, Int.reduceLE, Int.reduceEq, Int.reduceNe, Int.reduceToNat, Int.reduceAdd, Int.reduceSub, Int.reduceMul, Int.reduceNeg, Int.reduceBEq, Int.reduceBNe, Nat.reduceBEq, h1, h2, h3]
        have hP : unhexP s = unhexB s := by rw [unhexP, if_neg h1, if_neg (fun c => c.elim h2 (fun c => c h3))]
        refine unhex_loop (H0 := h) (id := h.length) (s := s) hL (fun hno g' H e2 e3 hk => ?_) (fun g' H bs hbs e4 hb => ?_) (s.length / 2) 0 _ _ [] (by omega) ?_ (by simp) ?_ ?_ ?_ (BB.new h)
        · simp only [go_sem, Nat.reduceLT, Nat.reduceLeDiff, Nat.reduceEqDiff, Nat.reduceAdd, Nat.reduceMul, Nat.reduceSub, Int.reduceLT, Int.reduceLE, Int.reduceEq, Int.reduceNe, Int.reduceToNat, Int.reduceAdd, Int.reduceSub, Int.reduceMul, Int.reduceNeg, Int.reduceBEq, Int.reduceBNe, Nat.reduceBEq, e2, e3]
          exact ⟨_, rfl, hk, [], false, rfl, (fun e => by cases e), (fun _ => by rw [hP, hno])⟩
        · obtain ⟨h', ht, hk⟩ := s_BString hb
          simp only [go_sem, Nat.reduceLT, Nat.reduceLeDiff, Nat.reduceEqDiff, Nat.reduceAdd, Nat.reduceMul, Nat.reduceSub, Int.reduceLT, Int.reduceLE, Int.reduceEq, Int.reduceNe, Int.reduceToNat, Int.reduceAdd, Int.reduceSub, Int.reduceMul, Int.reduceNeg, Int.reduceBEq, Int.reduceBNe, Nat.reduceBEq, e4, Pc_to ht]
          exact ⟨_, rfl, hk, bs, true, rfl, (fun _ => by rw [hP, hbs]), (fun e => by cases e)⟩
        · simp
        · (first | (simp only [go_sem, Nat.reduceLT, Nat.reduceLeDiff, Nat.reduceEqDiff, Nat.reduceAdd, Nat.reduceMul, Nat.reduceSub, Int.reduceLT, Int.reduceLE, Int.reduceEq, Int.reduceNe, Int.reduceToNat, Int.reduceAdd, Int.reduceSub, Int.reduceMul, Int.reduceNeg, Int.reduceBEq, Int.reduceBNe, Nat.reduceBEq]; done) | (simp only [go_sem, Nat.reduceLT, Nat.reduceLeDiff, Nat.reduceEqDiff, Nat.reduceAdd, Nat.reduceMul, Nat.reduceSub, Int.reduceLT, Int.reduceLE, Int.reduceEq, Int.reduceNe, Int.reduceToNat, Int.reduceAdd, Int.reduceSub, Int.reduceMul, Int.reduceNeg, Int.reduceBEq, Int.reduceBNe, Nat.reduceBEq]; rfl) | rfl)
        · (first | (simp only [go_sem, Nat.reduceLT, Nat.reduceLeDiff, Nat.reduceEqDiff, Nat.reduceAdd, Nat.reduceMul, Nat.reduceSub, Int.reduceLT, Int.reduceLE, Int.reduceEq, Int.reduceNe, Int.reduceToNat, Int.reduceAdd, Int.reduceSub, Int.reduceMul, Int.reduceNeg, Int.reduceBEq, Int.reduceBNe, Nat.reduceBEq]; done) | (simp only [go_sem, Nat.reduceLT, Nat.reduceLeDiff, Nat.reduceEqDiff, Nat.reduceAdd, Nat.reduceMul, Nat.reduceSub, Int.reduceLT, Int.reduceLE, Int.reduceEq, Int.reduceNe, Int.reduceToNat, Int.reduceAdd, Int.reduceSub, Int.reduceMul, Int.reduceNeg, Int.reduceBEq, Int.reduceBNe, Nat.reduceBEq]; rfl) | rfl)
        · (first | (simp only [go_sem, Nat.reduceLT, Nat.reduceLeDiff, Nat.reduceEqDiff, Nat.reduceAdd, Nat.reduceMul, Nat.reduceSub, Int.reduceLT, Int.reduceLE, Int.reduceEq, Int.reduceNe, Int.reduceToNat, Int.reduceAdd, Int.reduceSub, Int.reduceMul, Int.reduceNeg, Int.reduceBEq, Int.reduceBNe, Nat.reduceBEq]; done) | (simp only [go_sem, Nat.reduceLT, Nat.reduceLeDiff, Nat.reduceEqDiff, Nat.reduceAdd, Nat.reduceMul, Nat.reduceSub, Int.reduceLT, Int.reduceLE, Int.reduceEq, Int.reduceNe, Int.reduceToNat, Int.reduceAdd, Int.reduceSub, Int.reduceMul, Int.reduceNeg, Int.reduceBEq, Int.reduceBNe, Nat.reduceBEq]; rfl) | rfl)
      · simp only [go_sem, Nat.reduceLT, Nat.reduceLeDiff, Nat.reduceEqDiff, Nat.reduceAdd, Nat.reduceMul, Nat.reduceSub, Int.reduceLT, Int.reduceLE, Int.reduceEq, Int.reduceNe, Int.reduceToNat, Int.reduceAdd, Int.reduceSub, Int.reduceMul, Int.reduceNeg, Int.reduceBEq, Int.reduceBNe, Nat.reduceBEq, h1, h2, show ¬ ((s.length % 2 : Nat) : Int) = 0 by omega]
        exact ⟨_, rfl, Keeps.refl _, [], false, rfl, (fun e => by cases e), (fun _ => by rw [unhexP, if_neg h1, if_pos (.inr h3)])⟩
end Am
end Go.Proofs.YtjjkjfdojifchaaDoor
