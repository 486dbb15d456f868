/-
  WHAT THE FUNCTIONS COME TO, part 9: names, letters, lists of numbers.
  Conditions: none.
-/
import Derived.Test.YtjjkjfdojifchaaDoorSp8
import Derived.Test.YtjjkjfdojifchaaDoorSp3
set_option linter.unusedVariables false
set_option linter.unusedSimpArgs false
namespace Go.Proofs.YtjjkjfdojifchaaDoor
namespace Am
/-- A kind's word. -/
def nameL (k : Int) : List UInt8 :=
  if k = 1 then [98, 103, 110] else if k = 2 then [98, 103, 97, 107] else if k = 3 then [101, 110, 100] else if k = 4 then [101, 110, 100, 97, 107] else if k = 5 then [114, 115] else
  if k = 6 then [114, 115, 97, 107] else if k = 7 then [98, 103, 114, 101, 106] else if k = 8 then [115, 100] else if k = 9 then [101, 114] else if k = 10 then [112, 111, 108, 108] else
  if k = 11 then [115, 116, 97, 116] else if k = 12 then [117, 115, 116, 97, 116] else if k = 13 then [117, 100] else if k = 14 then [109, 100] else if k = 15 then [101, 114, 97, 107] else []
theorem s_Name (u : U) (h : Heap) (a : Option (Nat × Nat)) (c : Option Nat) (z : Nat) : ∃ os, To M n_pdu_PDU_Name [uV u a c z] h (.s (nameL u.kind)) (h ++ os) := by
  refine grow_of (To_body' rfl F_pdu_PDU_Name (Nat.le_of_ble_eq_true rfl) ?_)
  obtain ⟨kind, sq, n, ps, mr, list, self, data⟩ := u
  rcases kinds kind with hk | hk
  · rcases hk with rfl | rfl | rfl | rfl | rfl | rfl | rfl | rfl | rfl | rfl | rfl | rfl | rfl | rfl | rfl
    all_goals (
      simp only [go_sem, Nat.reduceLT, Nat.reduceLeDiff, Nat.reduceEqDiff, Nat.reduceAdd, Nat.reduceMul, Nat.reduceSub, Int.reduceLT, Int.reduceLE, Int.reduceEq, Int.reduceNe, Int.reduceToNat, Int.reduceAdd, Int.reduceSub, Int.reduceMul, Int.reduceNeg, Int.reduceBEq, Int.reduceBNe, Nat.reduceBEq, b_pdu_PDU_Name, uV]
      refine Pc_ofG (s_shapeOf _ _) fun os => ?_
      simp only [go_sem, Nat.reduceLT, Nat.reduceLeDiff, Nat.reduceEqDiff, Nat.reduceAdd, Nat.reduceMul, Nat.reduceSub, Int.reduceLT, Int.reduceLE, Int.reduceEq, Int.reduceNe, Int.reduceToNat, Int.reduceAdd, Int.reduceSub, Int.reduceMul, Int.reduceNeg, Int.reduceBEq, Int.reduceBNe, Nat.reduceBEq, shp]
      exact ⟨_, rfl, rfl, _, rfl⟩)
  · simp only [go_sem, Nat.reduceLT, Nat.reduceLeDiff, Nat.reduceEqDiff, Nat.reduceAdd, Nat.reduceMul, Nat.reduceSub, Int.reduceLT, Int.reduceLE, Int.reduceEq, Int.reduceNe, Int.reduceToNat, Int.reduceAdd, Int.reduceSub, Int.reduceMul, Int.reduceNeg, Int.reduceBEq, Int.reduceBNe, Nat.reduceBEq, b_pdu_PDU_Name, uV]
    refine Pc_ofG (s_shapeOf _ _) fun os => ?_
    simp only [go_sem, Nat.reduceLT, Nat.reduceLeDiff, Nat.reduceEqDiff, Nat.reduceAdd, Nat.reduceMul, Nat.reduceSub, Int.reduceLT, Int.reduceLE, Int.reduceEq, Int.reduceNe, Int.reduceToNat, Int.reduceAdd, Int.reduceSub, Int.reduceMul, Int.reduceNeg, Int.reduceBEq, Int.reduceBNe, Nat.reduceBEq, shp, hk]
    refine ⟨_, rfl, ?_, _, rfl⟩
    simp [nameL, hk]
/-- Which words a kind has, by their letters. -/
def hasL (k : Int) : List UInt8 :=
  if k = 1 ∨ k = 5 then [115, 110, 100] else if k = 2 ∨ k = 6 ∨ k = 9 ∨ k = 15 then [115, 110] else if k = 7 ∨ k = 3 then [115, 100] else if k = 4 then [115] else if k = 8 then [110, 100] else
  if k = 10 then [110, 112] else if k = 11 then [110, 112, 109, 108] else if k = 12 then [110, 109, 108] else if k = 13 ∨ k = 14 then [100] else []
theorem s_has (k : Int) (h : Heap) : To M n_trace_has [.i .i64 k] h (.s (hasL k)) h := by
  refine To_body rfl F_trace_has (Nat.le_of_ble_eq_true rfl) ?_
  rcases kinds k with hk | hk
  · rcases hk with rfl | rfl | rfl | rfl | rfl | rfl | rfl | rfl | rfl | rfl | rfl | rfl | rfl | rfl | rfl
    all_goals (
      simp only [go_sem, Nat.reduceLT, Nat.reduceLeDiff, Nat.reduceEqDiff, Nat.reduceAdd, Nat.reduceMul, Nat.reduceSub, Int.reduceLT, Int.reduceLE, Int.reduceEq, Int.reduceNe, Int.reduceToNat, Int.reduceAdd, Int.reduceSub, Int.reduceMul, Int.reduceNeg, Int.reduceBEq, Int.reduceBNe, Nat.reduceBEq, b_trace_has]
      rfl)
  · simp only [go_sem, Nat.reduceLT, Nat.reduceLeDiff, Nat.reduceEqDiff, Nat.reduceAdd, Nat.reduceMul, Nat.reduceSub, Int.reduceLT, Int.reduceLE, Int.reduceEq, Int.reduceNe, Int.reduceToNat, Int.reduceAdd, Int.reduceSub, Int.reduceMul, Int.reduceNeg, Int.reduceBEq, Int.reduceBNe, Nat.reduceBEq, b_trace_has, hk]
    simp [hasL, hk]
/-- Numbers, with commas between. -/
def listT (l : List Int) : List UInt8 := if l = [] then [45] else joinL [44] (l.map itoaL)
theorem strsOf_map (l : List (List UInt8)) : strsOf (l.map V.s) = some l := by
  induction l with
  | nil => rfl
  | cons a l ih => simp [strsOf, ih]
theorem s_Join (ls : List (List UInt8)) (sep : List UInt8) (h : Heap) (a : Option (Nat × Nat)) (c : Option Nat) (z n : Nat) (hR : R1 h a z (ls.map .s)) (hn : ls.length = n) (hl : (joinL sep ls).length ≤ 1000000) (h2 : ls.length ≤ 1000000) :
    To M n_strings_Join [.sl a n c z, .s sep] h (.s (joinL sep ls)) h := by
  subst hn
  refine To_oracle (g := oJoin) rfl ?_
  cases a with
  | none =>
    have : ls = [] := by simpa [R1] using hR
    subst this
    rfl
  | some q =>
    obtain ⟨id, off⟩ := q
    obtain ⟨rfl, vs, ro, ty, h1, hlen, h3⟩ := hR
    have hg : getCells h id off ls.length = some (ls.map V.s) := by
      simp only [List.length_map] at hlen
      simp only [getCells, h1, hlen, if_true]
      congr 1
      apply List.ext_getElem?
      intro i
      rw [List.getElem?_take]
      by_cases hi : i < ls.length
      · rw [if_pos hi, List.getElem?_drop]
        have := h3 i (V.s ls[i]) (by simp [hi])
        rw [this]; simp [hi]
      · rw [if_neg hi, List.getElem?_eq_none (by rw [List.length_map]; omega)]
    simp only [oJoin, hg, Option.bind_some, strsOf_map]
    rw [if_pos ⟨hl, h2⟩]
theorem itoaL_len {n : Int} (h : W32 n) : (itoaL n).length ≤ 10 := by
  unfold W32 at h
  rw [itoaL, if_neg (by omega)]
  exact dg_len 10 _ (by omega) (by omega)
theorem joinL_len (sep : List UInt8) (hs : sep.length = 1) : ∀ (ls : List (List UInt8)), (∀ x ∈ ls, x.length ≤ 10) → (joinL sep ls).length ≤ 11 * ls.length := by
  intro ls
  induction ls with
  | nil => intro _; simp [joinL]
  | cons a r ih =>
    intro h
    cases r with
    | nil => have := h a (by simp); simp [joinL]; omega
    | cons b r =>
      have h1 := h a (by simp)
      have h2 := ih (fun x hx => h x (by simp [hx]))
      simp only [joinL, List.length_append, List.length_cons] at h2 ⊢
      omega
theorem list_loop {k : List K} {Q : X → List V → Heap → Prop} {H0 : Heap} {a : Option (Nat × Nat)} {c : Option Nat} {z : Nat} {l : List Int} (hR : R1 H0 a z (l.map (.i .u32))) (hL : l.length ≤ 1000) (hW : ∀ x ∈ l, W32 x) (hg : glOk H0 = true)
    (hex : ∀ g' H x, Keeps H0 H → g' 3 = x → SB H x ((l.map itoaL).map .s) → Un M k (.ex 0) (frL 24 g') H Q) :
    ∀ (n i : Nat) (g : Nat → V) (H : Heap) (x : V), i + n = l.length → g 3 = x → g 9 = .sl a l.length c z → g 10 = .i .i64 l.length → g 11 = .i .i64 i → Keeps H0 H → SB H x (((l.take i).map itoaL).map .s) → Off H0 x →
      Un M (.code (.loop l_trace_list_0) :: k) .nrm (frL 24 g) H Q := by
  intro n
  induction n with
  | zero =>
    intro i g H x hi h3 h9 h10 h11 hk hb ho
    have : i = l.length := by omega
    subst this
    rw [Un_loop]
    simp only [go_sem, Nat.reduceLT, Nat.reduceLeDiff, Nat.reduceEqDiff, Nat.reduceAdd, Nat.reduceMul, Nat.reduceSub, Int.reduceLT, Int.reduceLE, Int.reduceEq, Int.reduceNe, Int.reduceToNat, Int.reduceAdd, Int.reduceSub, Int.reduceMul, Int.reduceNeg, Int.reduceBEq, Int.reduceBNe, Nat.reduceBEq, l_trace_list_0, h3, h9, h10, h11, Int.lt_irrefl]
    rw [List.take_length] at hb
    exact hex _ H x hk (by simp only [go_sem, Nat.reduceLT, Nat.reduceLeDiff, Nat.reduceEqDiff, Nat.reduceAdd, Nat.reduceMul, Nat.reduceSub, Int.reduceLT, Int.reduceLE, Int.reduceEq, Int.reduceNe, Int.reduceToNat, Int.reduceAdd, Int.reduceSub, Int.reduceMul, Int.reduceNeg, Int.reduceBEq, Int.reduceBNe, Nat.reduceBEq, h3]) hb
  | succ n ih =>
    intro i g H x hi h3 h9 h10 h11 hk hb ho
    have hlt : i < l.length := by omega
    have hw := hW l[i] (List.getElem_mem hlt)
    obtain ⟨id, off, us, ro, ty, rfl, rfl, hid, hv⟩ := (hR.keeps hk).lt (i := i) (by simpa using hlt)
    rw [List.getElem_map] at hv
    obtain ⟨H', he, hb', hlen, hkeep⟩ := app1 hb (.s (itoaL l[i])) 16 (by simp only [List.length_map, List.length_take]; omega) (by simp only [List.length_map, List.length_take]; omega)
    rw [Un_loop]
    simp only [go_sem, Nat.reduceLT, Nat.reduceLeDiff, Nat.reduceEqDiff, Nat.reduceAdd, Nat.reduceMul, Nat.reduceSub, Int.reduceLT, Int.reduceLE, Int.reduceEq, Int.reduceNe, Int.reduceToNat, Int.reduceAdd, Int.reduceSub, Int.reduceMul, Int.reduceNeg, Int.reduceBEq, Int.reduceBNe, Nat.reduceBEq, l_trace_list_0, h3, h9, h10, h11, Int.ofNat_lt, hlt, hid, hv, wrap_i64 (show -9223372036854775808 ≤ l[i] by unfold W32 at hw; omega) (show l[i] ≤ 9223372036854775807 by unfold W32 at hw; omega), Pc_to (s_Itoa l[i] H (hk.gl hg) (by unfold W32 at hw; omega) (by unfold W32 at hw; omega)), he, wrap_next (show i ≤ 4611686018427387904 by omega), Un_again]
    refine ih (i + 1) _ H' _ (by omega) (by simp only [go_sem, Nat.reduceLT, Nat.reduceLeDiff, Nat.reduceEqDiff, Nat.reduceAdd, Nat.reduceMul, Nat.reduceSub, Int.reduceLT, Int.reduceLE, Int.reduceEq, Int.reduceNe, Int.reduceToNat, Int.reduceAdd, Int.reduceSub, Int.reduceMul, Int.reduceNeg, Int.reduceBEq, Int.reduceBNe, Nat.reduceBEq]; rfl) (by simp only [go_sem, Nat.reduceLT, Nat.reduceLeDiff, Nat.reduceEqDiff, Nat.reduceAdd, Nat.reduceMul, Nat.reduceSub, Int.reduceLT, Int.reduceLE, Int.reduceEq, Int.reduceNe, Int.reduceToNat, Int.reduceAdd, Int.reduceSub, Int.reduceMul, Int.reduceNeg, Int.reduceBEq, Int.reduceBNe, Nat.reduceBEq, h9]) (by simp only [go_sem, Nat.reduceLT, Nat.reduceLeDiff, Nat.reduceEqDiff, Nat.reduceAdd, Nat.reduceMul, Nat.reduceSub, Int.reduceLT, Int.reduceLE, Int.reduceEq, Int.reduceNe, Int.reduceToNat, Int.reduceAdd, Int.reduceSub, Int.reduceMul, Int.reduceNeg, Int.reduceBEq, Int.reduceBNe, Nat.reduceBEq, h10]) (by simp only [go_sem, Nat.reduceLT, Nat.reduceLeDiff, Nat.reduceEqDiff, Nat.reduceAdd, Nat.reduceMul, Nat.reduceSub, Int.reduceLT, Int.reduceLE, Int.reduceEq, Int.reduceNe, Int.reduceToNat, Int.reduceAdd, Int.reduceSub, Int.reduceMul, Int.reduceNeg, Int.reduceBEq, Int.reduceBNe, Nat.reduceBEq]) (ho.keeps hk (by omega) hkeep) ?_ (Off.new hk _ _ _ _)
    have e2 : ((l.take (i + 1)).map itoaL).map V.s = ((l.take i).map itoaL).map V.s ++ [.s (itoaL l[i])] := by
      rw [List.take_succ_eq_append_getElem hlt, List.map_append, List.map_append]; rfl
    rw [e2]
    exact hb'
theorem s_list (l : List Int) (h : Heap) (a : Option (Nat × Nat)) (c : Option Nat) (z : Nat) (hR : R1 h a z (l.map (.i .u32))) (hL : l.length ≤ 1000) (hW : ∀ x ∈ l, W32 x) (hg : glOk h = true) :
    ∃ v h', To M n_trace_list [.sl a l.length c z] h v h' ∧ v = .s (listT l) ∧ Keeps h h' := by
  refine To_body' rfl F_trace_list (Nat.le_of_ble_eq_true rfl) ?_
  simp only [go_sem, Nat.reduceLT, Nat.reduceLeDiff, Nat.reduceEqDiff, Nat.reduceAdd, Nat.reduceMul, Nat.reduceSub, Int.reduceLT, Int.reduceLE, Int.reduceEq, Int.reduceNe, Int.reduceToNat, Int.reduceAdd, Int.reduceSub, Int.reduceMul, Int.reduceNeg, Int.reduceBEq, Int.reduceBNe, Nat.reduceBEq, b_trace_list]
  by_cases hl : l = []
  · subst hl
    simp only [go_sem, Nat.reduceLT, Nat.reduceLeDiff, Nat.reduceEqDiff, Nat.reduceAdd, Nat.reduceMul, Nat.reduceSub, Int.reduceLT, Int.reduceLE, Int.reduceEq, Int.reduceNe, Int.reduceToNat, Int.reduceAdd, Int.reduceSub, Int.reduceMul, Int.reduceNeg, Int.reduceBEq, Int.reduceBNe, Nat.reduceBEq]
    exact ⟨_, rfl, by simp [listT], Keeps.refl _⟩
  · have hpos : ¬ ((l.length : Int) = 0) := by
      have := List.length_pos_iff.2 hl
      omega
    simp only [go_sem, Nat.reduceLT, Nat.reduceLeDiff, Nat.reduceEqDiff, Nat.reduceAdd, Nat.reduceMul, Nat.reduceSub, Int.reduceLT, Int.reduceLE, Int.reduceEq, Int.reduceNe, Int.reduceToNat, Int.reduceAdd, Int.reduceSub, Int.reduceMul, Int.reduceNeg, Int.reduceBEq, Int.reduceBNe, Nat.reduceBEq, hpos]
    refine list_loop (c := c) hR hL hW hg ?_ l.length 0 _ h (.sl none 0 (some 0) 0) (by omega) ?_ ?_ ?_ ?_ (Keeps.refl _) (SB.nil _) (Off.nil _ _ _ _)
    · intro g' H x hk h3 hb
      obtain ⟨a', c', z', rfl, hR'⟩ := hb.row
      have hjl : (joinL [44] (l.map itoaL)).length ≤ 1000000 := by
        have := joinL_len [44] rfl (l.map itoaL) (fun x hx => by
          obtain ⟨y, hy, rfl⟩ := List.mem_map.1 hx
          exact itoaL_len (hW y hy))
        simp at this
        omega
      simp only [go_sem, Nat.reduceLT, Nat.reduceLeDiff, Nat.reduceEqDiff, Nat.reduceAdd, Nat.reduceMul, Nat.reduceSub, Int.reduceLT, Int.reduceLE, Int.reduceEq, Int.reduceNe, Int.reduceToNat, Int.reduceAdd, Int.reduceSub, Int.reduceMul, Int.reduceNeg, Int.reduceBEq, Int.reduceBNe, Nat.reduceBEq, h3, Pc_to (s_Join (l.map itoaL) [44] H a' c' z' ((l.map itoaL).map V.s).length hR' (by simp) hjl (by simp; omega))]
      exact ⟨_, rfl, by simp [listT, hl], hk⟩
    · (first | (simp only [go_sem, Nat.reduceLT, Nat.reduceLeDiff, Nat.reduceEqDiff, Nat.reduceAdd, Nat.reduceMul, Nat.reduceSub, Int.reduceLT, Int.reduceLE, Int.reduceEq, Int.reduceNe, Int.reduceToNat, Int.reduceAdd, Int.reduceSub, Int.reduceMul, Int.reduceNeg, Int.reduceBEq, Int.reduceBNe, Nat.reduceBEq]; done) | (simp only [go_sem, Nat.reduceLT, Nat.reduceLeDiff, Nat.reduceEqDiff, Nat.reduceAdd, Nat.reduceMul, Nat.reduceSub, Int.reduceLT, Int.reduceLE, Int.reduceEq, Int.reduceNe, Int.reduceToNat, Int.reduceAdd, Int.reduceSub, Int.reduceMul, Int.reduceNeg, Int.reduceBEq, Int.reduceBNe, Nat.reduceBEq]; rfl) | rfl)
    · (first | (simp only [go_sem, Nat.reduceLT, Nat.reduceLeDiff, Nat.reduceEqDiff, Nat.reduceAdd, Nat.reduceMul, Nat.reduceSub, Int.reduceLT, Int.reduceLE, Int.reduceEq, Int.reduceNe, Int.reduceToNat, Int.reduceAdd, Int.reduceSub, Int.reduceMul, Int.reduceNeg, Int.reduceBEq, Int.reduceBNe, Nat.reduceBEq]; done) | (simp only [go_sem, Nat.reduceLT, Nat.reduceLeDiff, Nat.reduceEqDiff, Nat.reduceAdd, Nat.reduceMul, Nat.reduceSub, Int.reduceLT, Int.reduceLE, Int.reduceEq, Int.reduceNe, Int.reduceToNat, Int.reduceAdd, Int.reduceSub, Int.reduceMul, Int.reduceNeg, Int.reduceBEq, Int.reduceBNe, Nat.reduceBEq]; rfl) | rfl)
    · (first | (simp only [go_sem, Nat.reduceLT, Nat.reduceLeDiff, Nat.reduceEqDiff, Nat.reduceAdd, Nat.reduceMul, Nat.reduceSub, Int.reduceLT, Int.reduceLE, Int.reduceEq, Int.reduceNe, Int.reduceToNat, Int.reduceAdd, Int.reduceSub, Int.reduceMul, Int.reduceNeg, Int.reduceBEq, Int.reduceBNe, Nat.reduceBEq]; done) | (simp only [go_sem, Nat.reduceLT, Nat.reduceLeDiff, Nat.reduceEqDiff, Nat.reduceAdd, Nat.reduceMul, Nat.reduceSub, Int.reduceLT, Int.reduceLE, Int.reduceEq, Int.reduceNe, Int.reduceToNat, Int.reduceAdd, Int.reduceSub, Int.reduceMul, Int.reduceNeg, Int.reduceBEq, Int.reduceBNe, Nat.reduceBEq]; rfl) | rfl)
    · (first | (simp only [go_sem, Nat.reduceLT, Nat.reduceLeDiff, Nat.reduceEqDiff, Nat.reduceAdd, Nat.reduceMul, Nat.reduceSub, Int.reduceLT, Int.reduceLE, Int.reduceEq, Int.reduceNe, Int.reduceToNat, Int.reduceAdd, Int.reduceSub, Int.reduceMul, Int.reduceNeg, Int.reduceBEq, Int.reduceBNe, Nat.reduceBEq]; done) | (simp only [go_sem, Nat.reduceLT, Nat.reduceLeDiff, Nat.reduceEqDiff, Nat.reduceAdd, Nat.reduceMul, Nat.reduceSub, Int.reduceLT, Int.reduceLE, Int.reduceEq, Int.reduceNe, Int.reduceToNat, Int.reduceAdd, Int.reduceSub, Int.reduceMul, Int.reduceNeg, Int.reduceBEq, Int.reduceBNe, Nat.reduceBEq]; rfl) | rfl)
end Am
end Go.Proofs.YtjjkjfdojifchaaDoor
