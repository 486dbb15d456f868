/-
  PLAIN LAWS, part 2: of a text, the unit whose text it is, or none.
  Conditions: none.
-/
import Derived.Test.YtjjkjfdojifchaaDoorPu1
set_option linter.unusedVariables false
set_option linter.unusedSimpArgs false
namespace Go.Proofs.YtjjkjfdojifchaaDoor
namespace Am
/-- A word of a unit's text. -/
def fw (u : U) (w : UInt8) : List UInt8 :=
  if w = 115 then [115, 113] ++ itoaL u.sq else if w = 110 then [110] ++ itoaL u.n else if w = 112 then [112, 115] ++ itoaL u.ps else if w = 109 then [109, 114] ++ itoaL u.mr else
  if w = 108 then 108 :: listT u.list else 100 :: hexT u.data
theorem tk115 (u u' : U) (x : List UInt8) : takeP u 115 x = some u' ↔ ∃ n, x = [115, 113] ++ itoaL n ∧ lowI n ∧ u' = { u with sq := n } := by
  rw [takeP, if_pos rfl, Option.map_eq_some_iff]
  constructor
  · rintro ⟨n, h, rfl⟩; rw [numP_iff] at h; exact ⟨n, h.1, h.2, rfl⟩
  · rintro ⟨n, h1, h2, rfl⟩; exact ⟨n, (numP_iff _ _ _).2 ⟨h1, h2⟩, rfl⟩
theorem tk110 (u u' : U) (x : List UInt8) : takeP u 110 x = some u' ↔ ∃ n, x = [110] ++ itoaL n ∧ lowI n ∧ u' = { u with n := n } := by
  rw [takeP, if_neg (by decide), if_pos rfl, Option.map_eq_some_iff]
  constructor
  · rintro ⟨n, h, rfl⟩; rw [numP_iff] at h; exact ⟨n, h.1, h.2, rfl⟩
  · rintro ⟨n, h1, h2, rfl⟩; exact ⟨n, (numP_iff _ _ _).2 ⟨h1, h2⟩, rfl⟩
theorem tk112 (u u' : U) (x : List UInt8) : takeP u 112 x = some u' ↔ ∃ n, x = [112, 115] ++ itoaL n ∧ lowI n ∧ u' = { u with ps := n } := by
  rw [takeP, if_neg (by decide), if_neg (by decide), if_pos rfl, Option.map_eq_some_iff]
  constructor
  · rintro ⟨n, h, rfl⟩; rw [numP_iff] at h; exact ⟨n, h.1, h.2, rfl⟩
  · rintro ⟨n, h1, h2, rfl⟩; exact ⟨n, (numP_iff _ _ _).2 ⟨h1, h2⟩, rfl⟩
theorem tk109 (u u' : U) (x : List UInt8) : takeP u 109 x = some u' ↔ ∃ n, x = [109, 114] ++ itoaL n ∧ lowI n ∧ u' = { u with mr := n } := by
  rw [takeP, if_neg (by decide), if_neg (by decide), if_neg (by decide), if_pos rfl, Option.map_eq_some_iff]
  constructor
  · rintro ⟨n, h, rfl⟩; rw [numP_iff] at h; exact ⟨n, h.1, h.2, rfl⟩
  · rintro ⟨n, h1, h2, rfl⟩; exact ⟨n, (numP_iff _ _ _).2 ⟨h1, h2⟩, rfl⟩
theorem tk108 (u u' : U) (x : List UInt8) : takeP u 108 x = some u' ↔ ∃ l, x = 108 :: listT l ∧ (∀ y ∈ l, lowI y) ∧ u' = { u with list := l } := by
  rw [takeP, if_neg (by decide), if_neg (by decide), if_neg (by decide), if_neg (by decide), if_pos rfl, Option.map_eq_some_iff]
  constructor
  · rintro ⟨n, h, rfl⟩; rw [numsP_iff] at h; exact ⟨n, h.1, h.2, rfl⟩
  · rintro ⟨n, h1, h2, rfl⟩; exact ⟨n, (numsP_iff _ _).2 ⟨h1, h2⟩, rfl⟩
theorem tk100 (u u' : U) (x : List UInt8) : takeP u 100 x = some u' ↔ ∃ d, x = 100 :: hexT d ∧ u' = { u with data := d } := by
  rw [takeP, if_neg (by decide), if_neg (by decide), if_neg (by decide), if_neg (by decide), if_neg (by decide)]
  constructor
  · intro h
    split at h
    · rename_i h1
      rw [Option.map_eq_some_iff] at h
      obtain ⟨d, h2, rfl⟩ := h
      rw [unhexP_iff] at h2
      refine ⟨d, ?_, rfl⟩
      rw [← h2]
      conv => lhs; rw [← List.take_append_drop 1 x, h1]
      rfl
    · cases h
  · rintro ⟨d, rfl, rfl⟩
    rw [if_pos (by rfl), Option.map_eq_some_iff]
    exact ⟨d, (unhexP_iff _ _).2 rfl, rfl⟩
theorem ta_cons (u r : U) (w : UInt8) (l : List UInt8) (x : List UInt8) (xs : List (List UInt8)) : takeAll u (w :: l) (x :: xs) = some r ↔ ∃ u', takeP u w x = some u' ∧ takeAll u' l xs = some r := by
  rw [takeAll]
  cases h : takeP u w x with
  | none => simp
  | some u' => simp
theorem ta_nil (u r : U) (xs : List (List UInt8)) : takeAll u [] xs = some r ↔ u = r := by
  rw [takeAll]; simp
theorem take_words (k : Int) (hk : 1 ≤ k ∧ k ≤ 15) (self : Bool) (xs : List (List UInt8)) (hx : xs.length = (hasL k).length) (u : U) :
    takeAll { zeroU with kind := k, self := self } (hasL k) xs = some u → u.kind = k ∧ u.self = self ∧ xs = (hasL k).map (fw u) := by
  have hk' : k = 1 ∨ k = 2 ∨ k = 3 ∨ k = 4 ∨ k = 5 ∨ k = 6 ∨ k = 7 ∨ k = 8 ∨ k = 9 ∨ k = 10 ∨ k = 11 ∨ k = 12 ∨ k = 13 ∨ k = 14 ∨ k = 15 := by omega
  intro h
  rcases xs with _ | ⟨x1, _ | ⟨x2, _ | ⟨x3, _ | ⟨x4, _ | ⟨x5, xs⟩⟩⟩⟩⟩
  all_goals (rcases hk' with rfl | rfl | rfl | rfl | rfl | rfl | rfl | rfl | rfl | rfl | rfl | rfl | rfl | rfl | rfl)
  all_goals try (exfalso; simp [hasL] at hx; done)
  all_goals (
    simp only [hasL, Int.reduceEq, or_true, true_or, or_false, false_or, if_true, if_false, reduceIte, ta_cons, ta_nil, tk115, tk110, tk112, tk109, tk108, tk100] at h
    simp only [hasL, Int.reduceEq, or_true, true_or, or_false, false_or, if_true, if_false, reduceIte, List.map_cons, List.map_nil]
    grind [fw])
theorem kinds15 {k : Int} (hk : 1 ≤ k ∧ k ≤ 15) : k = 1 ∨ k = 2 ∨ k = 3 ∨ k = 4 ∨ k = 5 ∨ k = 6 ∨ k = 7 ∨ k = 8 ∨ k = 9 ∨ k = 10 ∨ k = 11 ∨ k = 12 ∨ k = 13 ∨ k = 14 ∨ k = 15 := by omega
theorem okU_low {u : U} (ok : okU u) : lowI u.sq ∧ lowI u.n ∧ lowI u.ps ∧ lowI u.mr ∧ ∀ x ∈ u.list, lowI x := by
  obtain ⟨_, _, _, _, h1, h2, h3, h4, h5, _, _, _, _, _, _, _, _, h6⟩ := ok
  refine ⟨?_, h1, h2, h3, h6⟩
  unfold lowI; omega
theorem words_take (u : U) (ok : okU u) : takeAll { zeroU with kind := u.kind, self := u.self } (hasL u.kind) ((hasL u.kind).map (fw u)) = some u := by
  obtain ⟨l1, l2, l3, l4, l5⟩ := okU_low ok
  obtain ⟨k1, k2, hd, _, h1, h2, h3, h4, h5, c1, c2, c3, c4, c5, c6, c7, c8, h6⟩ := ok
  obtain ⟨kind, sq, n, ps, mr, list, self, data⟩ := u
  simp only at *
  rcases kinds15 ⟨k1, k2⟩ with rfl | rfl | rfl | rfl | rfl | rfl | rfl | rfl | rfl | rfl | rfl | rfl | rfl | rfl | rfl
  all_goals (
    simp only [hasL, Int.reduceEq, or_true, true_or, or_false, false_or, if_true, if_false, reduceIte, List.map_cons, List.map_nil, ta_cons, ta_nil, tk115, tk110, tk112, tk109, tk108, tk100]
    simp [most] at hd c1 c2 c3 c4 c5 c6 c7 c8
    try subst c1
    try subst c2
    try subst c3
    try subst c4
    try subst c5
    try subst c8
    try subst hd)
  all_goals (
    repeat (first | (refine ⟨_, ⟨_, rfl, by assumption, rfl⟩, ?_⟩) | (refine ⟨_, ⟨_, rfl, rfl⟩, ?_⟩))
    rfl)
theorem kindP_name {k : Int} (hk : 1 ≤ k ∧ k ≤ 15) : kindP (nameL k) = k := by
  rcases kinds15 hk with rfl | rfl | rfl | rfl | rfl | rfl | rfl | rfl | rfl | rfl | rfl | rfl | rfl | rfl | rfl <;> decide +kernel
theorem kindF_eq (s : List UInt8) : ∀ (n : Nat) (k : Int), kindF s n k ≠ 0 → (k ≤ kindF s n k ∧ kindF s n k < k + n) ∧ nameL (kindF s n k) = s := by
  intro n
  induction n with
  | zero => intro k h; exact absurd rfl h
  | succ n ih =>
    intro k h
    rw [kindF] at h ⊢
    split
    · rename_i e
      exact ⟨by omega, e⟩
    · rename_i e
      rw [if_neg e] at h
      obtain ⟨h1, h2⟩ := ih (k + 1) h
      exact ⟨by omega, h2⟩
theorem kindP_eq {s : List UInt8} (h : kindP s ≠ 0) : (1 ≤ kindP s ∧ kindP s ≤ 15) ∧ nameL (kindP s) = s := by
  have hF : kindF s 15 1 = kindP s := by simp only [kindF, kindP]; rfl
  rw [← hF] at h ⊢
  obtain ⟨h1, h2⟩ := kindF_eq s 15 1 h
  exact ⟨by omega, h2⟩
theorem name_no (k : Int) : (32 : UInt8) ∉ nameL k := by
  rcases kinds k with hk | hk
  · rcases hk with rfl | rfl | rfl | rfl | rfl | rfl | rfl | rfl | rfl | rfl | rfl | rfl | rfl | rfl | rfl <;> decide
  · have : nameL k = [] := by simp [nameL, hk]
    rw [this]; simp
theorem itoa_no {n : Int} (h : lowI n) : (32 : UInt8) ∉ itoaL n := fun hc => by
  have := itoa_all h.1 _ hc
  simp at this
theorem list_no {l : List Int} (h : ∀ x ∈ l, lowI x) : (32 : UInt8) ∉ listT l := fun hc => by
  have := list_all h _ hc
  simp at this
theorem fw_no {u : U} (ok : okU u) (w : UInt8) : (32 : UInt8) ∉ fw u w := by
  obtain ⟨l1, l2, l3, l4, l5⟩ := okU_low ok
  have a1 := itoa_no l1
  have a2 := itoa_no l2
  have a3 := itoa_no l3
  have a4 := itoa_no l4
  have a5 := list_no l5
  have a6 := hexT_no u.data
  unfold fw
  repeat' split
  all_goals simp [*]
theorem join_flat (b : UInt8) : ∀ (xs : List (List UInt8)) (w : List UInt8), joinL [b] (w :: xs) = w ++ xs.flatMap (b :: ·) := by
  intro xs
  induction xs with
  | nil => intro w; simp [joinL]
  | cons x xs ih => intro w; rw [joinL, ih]; simp
theorem field_word {u : U} (hs : u.self = false) {w : UInt8} (hw : w ∈ ([115, 110, 112, 109, 108, 100] : List UInt8)) : fieldT u w = 32 :: fw u w := by
  simp only [List.mem_cons, List.not_mem_nil, or_false] at hw
  rcases hw with rfl | rfl | rfl | rfl | rfl | rfl <;> simp [fieldT, fw, hs]
theorem flat_words {u : U} (hs : u.self = false) : ∀ (l : List UInt8), (∀ w ∈ l, w ∈ ([115, 110, 112, 109, 108, 100] : List UInt8)) → l.flatMap (fieldT u) = (l.map (fw u)).flatMap (32 :: ·) := by
  intro l
  induction l with
  | nil => intro _; rfl
  | cons w l ih =>
    intro h
    rw [List.flatMap_cons, field_word hs (h w (by simp)), ih (fun x hx => h x (by simp [hx]))]
    rfl
/-- The words of a unit's text. -/
def wordsU (u : U) : List (List UInt8) := if u.self = true then [nameL 3, fw u 115, [115, 101, 108, 102], fw u 100] else nameL u.kind :: (hasL u.kind).map (fw u)
theorem txt_words {u : U} (h3 : u.self = true → u.kind = 3) : joinL [32] (wordsU u) = txt u := by
  unfold wordsU
  cases hs : u.self with
  | false => rw [if_neg (by decide), join_flat, txt, flat_words hs _ (hasL_mem _)]
  | true =>
    have hk := h3 hs
    simp [txt, hk, hasL, joinL, fieldT, fw, hs]
theorem split_txt {u : U} (ok : okU u) : splitL 32 (txt u) = wordsU u := by
  have h3 : u.self = true → u.kind = 3 := fun e => by
    rcases ok.2.2.2.2.2.2.2.2.2.2.2.1 with h | h
    · exact h
    · rw [h] at e; cases e
  rw [← txt_words h3]
  apply split_join
  · unfold wordsU; split <;> simp
  · intro w hw
    unfold wordsU at hw
    split at hw
    · simp only [List.mem_cons, List.not_mem_nil, or_false] at hw
      rcases hw with rfl | rfl | rfl | rfl
      · exact name_no _
      · exact fw_no ok _
      · decide
      · exact fw_no ok _
    · simp only [List.mem_cons, List.mem_map] at hw
      rcases hw with rfl | ⟨x, _, rfl⟩
      · exact name_no _
      · exact fw_no ok _
theorem parse_txt {u : U} (ok : okU u) : parseP (txt u) = some u := by
  have h3 : u.self = true → u.kind = 3 := fun e => by
    rcases ok.2.2.2.2.2.2.2.2.2.2.2.1 with h | h
    · exact h
    · rw [h] at e; cases e
  have hk := kindP_name ⟨ok.1, ok.2.1⟩
  have ht := words_take u ok
  rw [parseP, split_txt ok]
  have hcond : (kindP ((wordsU u).headD []) = 3 ∧ (wordsU u).length = 4 ∧ (wordsU u).getD 2 [] = [115, 101, 108, 102]) ↔ u.self = true := by
    unfold wordsU
    cases hs : u.self with
    | true => simp only [if_true, iff_true]; exact ⟨kindP_name (k := 3) (by decide), rfl, rfl⟩
    | false =>
      simp only [Bool.false_eq_true, if_false, iff_false]
      rintro ⟨e1, e2, _⟩
      rw [List.headD_cons, hk] at e1
      rw [e1] at e2
      simp [hasL] at e2
  by_cases hs : u.self = true
  · rw [if_pos (hcond.2 hs)]
    have hk3 := h3 hs
    rw [hs, hk3] at ht
    simp only [wordsU, hs, if_true, List.getD_cons_zero, List.getD_cons_succ]
    rw [parseW, if_neg (by simp [hasL])]
    simp only [List.drop_succ_cons, List.drop_zero]
    rw [show takeAll { zeroU with kind := 3, self := true } (hasL 3) [fw u 115, fw u 100] = some u from ht]
    simp only [if_pos ok]
  · have hs' : u.self = false := by simpa using hs
    rw [if_neg (fun e => hs (hcond.1 e))]
    rw [hs'] at ht
    have hW : wordsU u = nameL u.kind :: (hasL u.kind).map (fw u) := by unfold wordsU; rw [if_neg hs]
    rw [hW, List.headD_cons, hk, parseW, if_neg (by simp; have := ok.1; omega), List.drop_succ_cons, List.drop_zero, ht]
    simp only [if_pos ok]
theorem parseW_ok {k : Int} {self : Bool} {ws : List (List UInt8)} {u : U} (hk : 1 ≤ k ∧ k ≤ 15 ∨ k = 0) (h : parseW k self ws = some u) : okU u ∧ u.kind = k ∧ u.self = self ∧ ws.drop 1 = (hasL k).map (fw u) ∧ ws.length = 1 + (hasL k).length := by
  unfold parseW at h
  split at h
  · cases h
  · rename_i h1
    have hlen : ws.length = 1 + (hasL k).length := by omega
    split at h
    · rename_i u' h2
      split at h
      · rename_i ok
        injection h with h
        subst h
        obtain ⟨e1, e2, e3⟩ := take_words k (by omega) self (ws.drop 1) (by rw [List.length_drop]; omega) u' h2
        exact ⟨ok, e1, e2, e3, hlen⟩
      · cases h
    · cases h
theorem kindP_range (s : List UInt8) : 1 ≤ kindP s ∧ kindP s ≤ 15 ∨ kindP s = 0 := by
  by_cases h : kindP s = 0
  · exact .inr h
  · exact .inl (kindP_eq h).1
theorem txt_parse {s : List UInt8} {u : U} (h : parseP s = some u) : okU u ∧ txt u = s := by
  have hj := join_split 32 s
  unfold parseP at h
  generalize splitL 32 s = ws at h hj
  split at h
  · rename_i hc
    obtain ⟨e1, e2, e3⟩ := hc
    obtain ⟨w0, w1, w2, w3, rfl⟩ : ∃ w0 w1 w2 w3, ws = [w0, w1, w2, w3] := by
      match ws, e2 with
      | [a, b, c, d], _ => exact ⟨a, b, c, d, rfl⟩
    obtain ⟨ok, k1, k2, k3, _⟩ := parseW_ok (.inl (by decide)) h
    refine ⟨ok, ?_⟩
    have hn := (kindP_eq (s := w0) (by rw [show kindP w0 = 3 from e1]; decide)).2
    rw [show kindP w0 = 3 from e1] at hn
    rw [← txt_words (fun _ => k1), wordsU, if_pos k2, ← hj]
    have e3' : w2 = [115, 101, 108, 102] := e3
    have k3' : [w1, w3] = [fw u 115, fw u 100] := k3
    injection k3' with q1 q2
    injection q2 with q2
    rw [hn, e3', q1, q2]
  · rename_i hc
    have hws : ws ≠ [] := fun e => by
      subst e
      obtain ⟨_, _, _, _, e5⟩ := parseW_ok (kindP_range _) h
      simp at e5
      omega
    obtain ⟨w0, wr, rfl⟩ : ∃ w0 wr, ws = w0 :: wr := by cases ws with | nil => exact absurd rfl hws | cons a b => exact ⟨a, b, rfl⟩
    simp only [List.headD_cons] at h
    obtain ⟨ok, k1, k2, k3, _⟩ := parseW_ok (kindP_range _) h
    refine ⟨ok, ?_⟩
    have hn0 : kindP w0 ≠ 0 := fun e => by have := ok.1; omega
    have hn := (kindP_eq hn0).2
    have k3' : wr = (hasL (kindP w0)).map (fw u) := k3
    rw [← txt_words (fun e => by rw [k2] at e; cases e), wordsU, if_neg (by rw [k2]; decide), ← hj, k1, hn, ← k3']
theorem parse_iff (s : List UInt8) (u : U) : parseP s = some u ↔ okU u ∧ txt u = s :=
  ⟨txt_parse, fun ⟨ok, e⟩ => e ▸ parse_txt ok⟩
/-- Unlike units have unlike texts. -/
theorem txt_inj {u v : U} (hu : okU u) (hv : okU v) (h : txt u = txt v) : u = v := by
  have h1 := parse_txt hu
  rw [h, parse_txt hv] at h1
  injection h1 with h1
  exact h1.symm
theorem txt_ne {u : U} (ok : okU u) : txt u ≠ [] := by
  intro e
  have hk := kindP_name ⟨ok.1, ok.2.1⟩
  rw [txt] at e
  have : nameL u.kind = [] := (List.append_eq_nil_iff.1 e).1
  rw [this] at hk
  have h0 : kindP [] = 0 := by decide +kernel
  have := ok.1
  omega
theorem parse_nil : parseP [] = none := by
  cases h : parseP [] with
  | none => rfl
  | some u =>
    obtain ⟨ok, e⟩ := txt_parse h
    exact absurd e (txt_ne ok)
end Am
end Go.Proofs.YtjjkjfdojifchaaDoor
