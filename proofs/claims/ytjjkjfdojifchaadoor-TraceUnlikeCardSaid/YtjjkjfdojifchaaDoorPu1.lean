/-
  PLAIN LAWS, part 1: numbers, lists and bytes as text, and back.
  Conditions: none.
-/
import Derived.Test.YtjjkjfdojifchaaDoorSp14
set_option linter.unusedVariables false
set_option linter.unusedSimpArgs false
namespace Go.Proofs.YtjjkjfdojifchaaDoor
namespace Am
theorem dg_char (n : Nat) (h : n < 10) : (UInt8.ofNat (48 + n)).toNat = 48 + n := by
  rw [UInt8.toNat_ofNat']; omega
theorem dg_all : ∀ (n : Nat), ∀ c ∈ dg n, 48 ≤ c.toNat ∧ c.toNat ≤ 57 := by
  intro n
  induction n using Nat.strongRecOn with
  | _ n ih =>
    rw [dg]
    split
    · rename_i h
      intro c hc
      simp only [List.mem_singleton] at hc
      rw [hc, dg_char n h]; omega
    · rename_i h
      intro c hc
      rcases List.mem_append.1 hc with hc | hc
      · exact ih (n / 10) (by omega) c hc
      · simp only [List.mem_singleton] at hc
        rw [hc, dg_char _ (by omega)]; omega
theorem dg_ne (n : Nat) : dg n ≠ [] := by
  rw [dg]; split <;> simp
theorem parse_dg : ∀ (n : Nat), n < 16777216 → ∀ l, Lib.parseUint10 0 (dg n ++ l) = Lib.parseUint10 n l := by
  intro n
  induction n using Nat.strongRecOn with
  | _ n ih =>
    intro hn l
    rw [dg]
    split
    · rename_i h
      simp only [List.cons_append, List.nil_append, Lib.parseUint10, dg_char n h]
      rw [if_pos (by omega), if_neg (by omega), if_neg (by omega)]
      congr 1; omega
    · rename_i h
      rw [List.append_assoc, ih (n / 10) (by omega) (by omega)]
      simp only [List.cons_append, List.nil_append, Lib.parseUint10, dg_char (n % 10) (by omega)]
      rw [if_pos (by omega), if_neg (by omega), if_neg (by omega)]
      congr 1; omega
theorem itoa_nat {n : Int} (h : 0 ≤ n) : itoaL n = dg n.toNat := by rw [itoaL, if_neg (by omega)]
theorem atoi_itoa {n : Int} (h1 : 0 ≤ n) (h2 : n < 16777216) : Lib.atoiAll (itoaL n) = .ok n := by
  rw [itoa_nat h1]
  cases hd : dg n.toNat with
  | nil => exact absurd hd (dg_ne _)
  | cons c r =>
    have hc := dg_all n.toNat c (by rw [hd]; simp)
    have hp := parse_dg n.toNat (by omega) []
    rw [List.append_nil, hd, Lib.parseUint10] at hp
    simp only [Lib.atoiAll]
    rw [if_neg (by omega)]
    rw [Lib.parseMag, if_neg (by simp), hp]
    simp only
    rw [if_neg (by omega), if_neg (by omega), if_neg (by omega)]
    congr 1; omega
theorem itoa_all {n : Int} (h1 : 0 ≤ n) : ∀ c ∈ itoaL n, 48 ≤ c.toNat ∧ c.toNat ≤ 57 := by rw [itoa_nat h1]; exact dg_all _
theorem itoa_ne (n : Int) : itoaL n ≠ [] := by
  rw [itoaL]; split
  · simp
  · exact dg_ne _
theorem numP_iff (s p : List UInt8) (n : Int) : numP s p = some n ↔ s = p ++ itoaL n ∧ 0 ≤ n ∧ n < 16777216 := by
  unfold numP
  constructor
  · intro h
    split at h
    · rename_i hp
      split at h
      · split at h
        · rename_i v hv hc
          injection h with h
          subst h
          refine ⟨?_, hc.2.1, hc.2.2⟩
          rw [hc.1]
          conv => lhs; rw [← List.take_append_drop p.length s, hp]
        · cases h
      · cases h
    · cases h
  · rintro ⟨rfl, h1, h2⟩
    rw [if_pos (by simp)]
    simp only [List.drop_left, atoi_itoa h1 h2]
    rw [if_pos ⟨trivial, h1, h2⟩]
/-! Parts and joins. -/
theorem split_one {b : UInt8} : ∀ {a : List UInt8}, b ∉ a → splitL b a = [a] := by
  intro a
  induction a with
  | nil => intro _; rfl
  | cons x a ih =>
    intro h
    simp only [List.mem_cons, not_or] at h
    rw [splitL, if_neg (fun e => h.1 e.symm), ih h.2]
theorem split_app {b : UInt8} : ∀ {a : List UInt8} (r : List UInt8), b ∉ a → splitL b (a ++ b :: r) = a :: splitL b r := by
  intro a
  induction a with
  | nil => intro r _; simp [splitL]
  | cons x a ih =>
    intro r h
    simp only [List.mem_cons, not_or] at h
    rw [List.cons_append, splitL, if_neg (fun e => h.1 e.symm), ih r h.2]
theorem split_join {b : UInt8} : ∀ (ws : List (List UInt8)), ws ≠ [] → (∀ w ∈ ws, b ∉ w) → splitL b (joinL [b] ws) = ws := by
  intro ws
  induction ws with
  | nil => intro h; exact absurd rfl h
  | cons w ws ih =>
    intro _ h
    cases ws with
    | nil => rw [joinL, split_one (h w (by simp))]
    | cons y r =>
      rw [joinL, List.append_assoc, List.singleton_append, split_app _ (h w (by simp)), ih (by simp) (fun x hx => h x (by simp at hx ⊢; right; exact hx))]
theorem join_split (b : UInt8) : ∀ (s : List UInt8), joinL [b] (splitL b s) = s := by
  intro s
  induction s with
  | nil => rfl
  | cons x r ih =>
    rw [splitL]
    split
    · rename_i e
      subst e
      cases hs : splitL x r with
      | nil => exact absurd hs (splitL_ne _ _)
      | cons p ps => rw [joinL, ← hs, ih]; rfl
    · cases hs : splitL b r with
      | nil => exact absurd hs (splitL_ne _ _)
      | cons p ps =>
        rw [hs] at ih
        simp only
        cases ps with
        | nil => rw [joinL] at ih ⊢; rw [ih]
        | cons q ps => rw [joinL] at ih ⊢; rw [← ih]; simp
theorem mapO_iff {α β : Type} (f : α → Option β) : ∀ (l : List α) (r : List β), mapO f l = some r ↔ l.length = r.length ∧ ∀ i (h : i < l.length) (h' : i < r.length), f l[i] = some r[i] := by
  intro l
  induction l with
  | nil => intro r; cases r <;> simp [mapO]
  | cons x l ih =>
    intro r
    cases r with
    | nil => simp only [mapO]; split <;> simp
    | cons y r =>
      simp only [mapO]
      constructor
      · intro h
        split at h
        · rename_i y' ys e1 e2
          injection h with h
          injection h with h1 h2
          subst h1; subst h2
          obtain ⟨q1, q2⟩ := (ih _).1 e2
          refine ⟨by simp [q1], fun i h h' => ?_⟩
          cases i with
          | zero => exact e1
          | succ i => exact q2 i (by simpa using h) (by simpa using h')
        · cases h
      · rintro ⟨h1, h2⟩
        have e1 := h2 0 (by simp) (by simp)
        have e2 := (ih r).2 ⟨by simpa using h1, fun i h h' => h2 (i + 1) (by simpa using h) (by simpa using h')⟩
        simp only [List.getElem_cons_zero] at e1
        rw [e1, e2]
theorem list_all {l : List Int} (h : ∀ x ∈ l, lowI x) : ∀ c ∈ listT l, c.toNat = 44 ∨ c.toNat = 45 ∨ 48 ≤ c.toNat ∧ c.toNat ≤ 57 := by
  unfold listT
  split
  · intro c hc; simp at hc; subst hc; right; left; rfl
  · rename_i hne
    clear hne
    induction l with
    | nil => intro c hc; simp [joinL] at hc
    | cons a l ih =>
      have ha := itoa_all (n := a) (by have := h a (by simp); unfold lowI at this; omega)
      cases l with
      | nil =>
        intro c hc
        simp only [List.map_cons, List.map_nil, joinL] at hc
        exact .inr (.inr (ha c hc))
      | cons b l =>
        intro c hc
        simp only [List.map_cons, joinL, List.mem_append, List.mem_singleton] at hc
        rcases hc with (hc | hc) | hc
        · exact .inr (.inr (ha c hc))
        · subst hc; left; rfl
        · exact ih (fun x hx => h x (by simp at hx ⊢; right; exact hx)) c (by simpa only [List.map_cons] using hc)
theorem numsP_iff (s : List UInt8) (l : List Int) : numsP s = some l ↔ s = 108 :: listT l ∧ ∀ x ∈ l, lowI x := by
  unfold numsP
  constructor
  · intro h
    split at h
    · rename_i h1
      have hs : s = 108 :: s.drop 1 := by
        conv => lhs; rw [← List.take_append_drop 1 s, h1]
        rfl
      split at h
      · rename_i h2
        injection h with h
        subst h
        rw [hs, h2]
        exact ⟨rfl, fun x hx => by cases hx⟩
      · obtain ⟨e1, e2⟩ := (mapO_iff _ _ _).1 h
        have e3 : splitL 44 (s.drop 1) = l.map itoaL := by
          apply List.ext_getElem
          · simpa using e1
          · intro i h1 h2
            have := e2 i h1 (by simpa using h2)
            rw [numP_iff] at this
            simpa using this.1
        have hl : l ≠ [] := fun e => by
          rw [e] at e3
          exact splitL_ne _ _ e3
        refine ⟨?_, fun x hx => ?_⟩
        · rw [listT, if_neg hl, ← e3, join_split]; exact hs
        · obtain ⟨i, hi, rfl⟩ := List.getElem_of_mem hx
          have := e2 i (by omega) hi
          rw [numP_iff] at this
          unfold lowI; omega
    · cases h
  · rintro ⟨rfl, hl⟩
    rw [if_pos (show List.take 1 (108 :: listT l) = [108] from rfl)]
    by_cases hn : l = []
    · subst hn; rfl
    · have hno : ∀ w ∈ l.map itoaL, (44 : UInt8) ∉ w := fun w hw hc => by
        obtain ⟨x, hx, rfl⟩ := List.mem_map.1 hw
        have := itoa_all (n := x) (by have := hl x hx; unfold lowI at this; omega) _ hc
        simp at this
      have h45 : List.drop 1 (108 :: listT l) ≠ [45] := by
        intro e
        rw [List.drop_succ_cons, List.drop_zero, listT, if_neg hn] at e
        cases l with
        | nil => exact hn rfl
        | cons a l =>
          have ha := itoa_all (n := a) (by have := hl a (by simp); unfold lowI at this; omega)
          have hne := itoa_ne a
          cases hi : itoaL a with
          | nil => exact hne hi
          | cons c r =>
            have hc := ha c (by rw [hi]; simp)
            have : c = 45 := by
              cases l with
              | nil => simp only [List.map_cons, List.map_nil, joinL, hi] at e; injection e
              | cons b l => simp only [List.map_cons, joinL, hi, List.cons_append] at e; injection e
            rw [this] at hc
            simp at hc
      rw [if_neg h45]
      rw [List.drop_succ_cons, List.drop_zero, listT, if_neg hn, split_join _ (by simpa using hn) hno, mapO_iff]
      refine ⟨by simp, fun i h h' => ?_⟩
      rw [numP_iff]
      have := hl l[i] (List.getElem_mem h')
      unfold lowI at this
      simp; omega
/-! Bytes. -/
theorem hexVD_fin : ∀ d : Fin 16, hexV (hexD d.1) = d.1 ∧ (hexD d.1 ≠ 32) ∧ hexD d.1 ≠ 45 := by decide +kernel
theorem hexDV_fin : ∀ c : Fin 256, 0 ≤ hexV (UInt8.ofNat c.1) → hexD (hexV (UInt8.ofNat c.1)).toNat = UInt8.ofNat c.1 := by decide +kernel
theorem hexDV {c : UInt8} (h : 0 ≤ hexV c) : hexD (hexV c).toNat = c := by
  have := hexDV_fin ⟨c.toNat, c.toNat_lt⟩
  simp only [UInt8.ofNat_toNat] at this
  exact this h
theorem unhex_hex : ∀ (d : List UInt8), unhexB (hexL d) = some d := by
  intro d
  induction d with
  | nil => rfl
  | cons c d ih =>
    have hc := c.toNat_lt
    have e1 := (hexVD_fin ⟨c.toNat / 16, by omega⟩).1
    have e2 := (hexVD_fin ⟨c.toNat % 16, by omega⟩).1
    simp only at e1 e2
    rw [hexL, unhexB, e1, e2, if_neg (by omega), ih]
    simp only [Option.map_some, Int.toNat_natCast]
    congr 2
    rw [show 16 * (c.toNat / 16) + c.toNat % 16 = c.toNat from by omega]
    simp
theorem hex_unhex : ∀ (n : Nat) (s d : List UInt8), s.length = 2 * n → unhexB s = some d → s = hexL d := by
  intro n
  induction n with
  | zero =>
    intro s d hs h
    have : s = [] := List.length_eq_zero_iff.1 (by omega)
    subst this
    simp only [unhexB] at h
    injection h with h
    subst h; rfl
  | succ n ih =>
    intro s d hs h
    match s, hs with
    | x :: y :: r, hs =>
      rw [unhexB] at h
      split at h
      · cases h
      · rename_i hv
        have vx := hexV_le x
        have vy := hexV_le y
        cases hr : unhexB r with
        | none => rw [hr] at h; cases h
        | some d' =>
          rw [hr] at h
          injection h with h
          subst h
          have := ih r d' (by simp at hs; omega) hr
          subst this
          rw [hexL]
          have e : (UInt8.ofNat (16 * (hexV x).toNat + (hexV y).toNat)).toNat = 16 * (hexV x).toNat + (hexV y).toNat := by
            rw [UInt8.toNat_ofNat']; omega
          rw [e, show (16 * (hexV x).toNat + (hexV y).toNat) / 16 = (hexV x).toNat from by omega, show (16 * (hexV x).toNat + (hexV y).toNat) % 16 = (hexV y).toNat from by omega, hexDV (by omega), hexDV (by omega)]
theorem hexL_len2 (l : List UInt8) : (hexL l).length = 2 * l.length := hexL_len l
theorem unhexP_iff (s d : List UInt8) : unhexP s = some d ↔ s = hexT d := by
  unfold unhexP
  constructor
  · intro h
    split at h
    · rename_i e
      injection h with h
      subst h; exact e
    · split at h
      · cases h
      · rename_i h1 h2
        have := hex_unhex (s.length / 2) s d (by omega) h
        rw [hexT, if_neg ?_]
        · exact this
        · intro e
          subst e
          exact h2 (.inl this)
  · rintro rfl
    by_cases hd : d = []
    · subst hd; rfl
    · rw [hexT, if_neg hd]
      have hl := hexL_len d
      have hp : 0 < d.length := List.length_pos_iff.2 hd
      rw [if_neg (fun e => by rw [e] at hl; simp at hl; omega), if_neg (fun e => by
        rcases e with e | e
        · rw [e] at hl; simp at hl; omega
        · omega)]
      exact unhex_hex d
theorem hexL_no : ∀ (d : List UInt8), (32 : UInt8) ∉ hexL d := by
  intro d
  induction d with
  | nil => simp [hexL]
  | cons c d ih =>
    have hc := c.toNat_lt
    have e1 := (hexVD_fin ⟨c.toNat / 16, by omega⟩).2.1
    have e2 := (hexVD_fin ⟨c.toNat % 16, by omega⟩).2.1
    simp only at e1 e2
    simp only [hexL, List.mem_cons, not_or]
    exact ⟨fun e => e1 e.symm, fun e => e2 e.symm, ih⟩
theorem hexT_no (d : List UInt8) : (32 : UInt8) ∉ hexT d := by
  unfold hexT
  split
  · decide
  · exact hexL_no d
end Am
end Go.Proofs.YtjjkjfdojifchaaDoor
