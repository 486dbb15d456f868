/-
  WHAT THE LIBRARY ANSWERS, WHERE IT IS TAKEN BY ITS CONTRACT: numbers as texts and back, texts cut and joined, a builder's own steps. Definitions alone; that the library's text answers so is shown elsewhere.
  Conditions: none (definitions).
-/
import Derived.Test.YtjjkjfdojifchaaDoorFns
import Derived.Lib.AtoiAll
set_option linter.unusedVariables false
set_option linter.unusedSimpArgs false
namespace Go.Proofs.YtjjkjfdojifchaaDoor
namespace Am
/-- A number's digits. -/
def dg (n : Nat) : List UInt8 := if n < 10 then [UInt8.ofNat (48 + n)] else dg (n / 10) ++ [UInt8.ofNat (48 + n % 10)]
termination_by n
decreasing_by omega
def itoaL (n : Int) : List UInt8 := if n < 0 then 45 :: dg (-n).toNat else dg n.toNat
/-- Texts, with one between. -/
def joinL (sep : List UInt8) : List (List UInt8) → List UInt8
  | [] => []
  | [x] => x
  | x :: y :: r => x ++ sep ++ joinL sep (y :: r)
/-- A text in parts, at each byte. -/
def splitL (b : UInt8) : List UInt8 → List (List UInt8)
  | [] => [[]]
  | x :: r => if x = b then [] :: splitL b r else match splitL b r with | p :: ps => (x :: p) :: ps | [] => [[x]]
def idxL (c : UInt8) : List UInt8 → Nat → Int
  | [], _ => -1
  | x :: r, n => if x = c then (n : Int) else idxL c r (n + 1)
def strsOf : List V → Option (List (List UInt8))
  | [] => some []
  | .s l :: r => (strsOf r).map (l :: ·)
  | _ => none
/-! What lies at the package's variables. -/
def wordsV : List V := [.s [], .s [101, 115, 116, 97, 98, 108, 105, 115, 104], .s [101, 115, 116, 97, 98, 108, 105, 115, 104, 101, 100], .s [114, 101, 108, 101, 97, 115, 101], .s [114, 101, 108, 101, 97, 115, 101, 100], .s [114, 101, 115, 121, 110, 99], .s [114, 101, 115, 121, 110, 99, 101, 100], .s [114, 101, 99, 111, 118, 101, 114], .s [100, 97, 116, 97], .s [117, 110, 105, 116], .s [109, 97, 110, 97, 103, 101], .s [114, 101, 116, 114, 105, 101, 118, 101, 100], .s [101, 114, 114, 111, 114]]
def powV : List V := [.i .u64 1, .i .u64 10, .i .u64 100, .i .u64 1000, .i .u64 10000, .i .u64 100000, .i .u64 1000000, .i .u64 10000000, .i .u64 100000000, .i .u64 1000000000, .i .u64 10000000000, .i .u64 100000000000, .i .u64 1000000000000, .i .u64 10000000000000, .i .u64 100000000000000, .i .u64 1000000000000000, .i .u64 10000000000000000, .i .u64 100000000000000000, .i .u64 1000000000000000000, .i .u64 10000000000000000000]
def glOk (h : Heap) : Bool :=
  (match (h[0]? : Option Obj) with | some (.cells a true _) => sameL a wordsV | _ => false) && (match (h[1]? : Option Obj) with | some (.cells a true (some t)) => decide (t < 1000000) && sameL a powV | _ => false) &&
  (match (h[2]? : Option Obj) with | some (.cells [.i .i64 _] true _) => true | _ => false) && (match (h[3]? : Option Obj) with | some (.cells [.ic _ _] true _) => true | _ => false) && (match (h[4]? : Option Obj) with | some (.cells [.ic _ _] true _) => true | _ => false)
/-! The oracles. -/
def oItoa (args : List V) (h : Heap) : Option (V × Heap) :=
  match args with
  | [.i .i64 n] => if glOk h = true ∧ -9223372036854775808 ≤ n ∧ n ≤ 9223372036854775807 then some (.s (itoaL n), h) else none
  | _ => none
def oAtoi (args : List V) (h : Heap) : Option (V × Heap) :=
  match args with
  | [.s l] =>
    if glOk h = true ∧ l.length ≤ 1000000 then
      match Lib.atoiAll l with
      | .ok v => some (.t [.i .i64 v, .ni], h)
      | .range => some (.t [.i .i64 (Lib.atoiSat l), .ic tyNE (.p (some (h.length, 0)))], h ++ [.dead])
      | _ => some (.t [.i .i64 0, .ic tyNE (.p (some (h.length, 0)))], h ++ [.dead])
    else none
  | _ => none
def oSplit (args : List V) (h : Heap) : Option (V × Heap) :=
  match args with
  | [.s l, .s [b]] =>
    if glOk h = true ∧ l.length ≤ 1000000 then
      some (.sl (some (h.length, 0)) (splitL b l).length (some (splitL b l).length) 1, h ++ [.cells ((splitL b l).map .s) false none])
    else none
  | _ => none
def oJoin (args : List V) (h : Heap) : Option (V × Heap) :=
  match args with
  | [.sl none n _ _, .s sep] => if n = 0 then some (.s [], h) else none
  | [.sl (some (id, off)) n _ 1, .s sep] =>
    match (getCells h id off n).bind strsOf with
    | some ls => if (joinL sep ls).length ≤ 1000000 ∧ n ≤ 1000000 then some (.s (joinL sep ls), h) else none
    | none => none
  | _ => none
def oIndexByte (args : List V) (h : Heap) : Option (V × Heap) :=
  match args with
  | [.s l, .i .u8 c] => if 0 ≤ c ∧ c < 256 then some (.i .i64 (idxL (UInt8.ofNat c.toNat) l 0), h) else none
  | _ => none
def oCheck (args : List V) (h : Heap) : Option (V × Heap) :=
  match args with
  | [.p (some (id, 0))] =>
    match (h[id]? : Option Obj) with
    | some (.cells [.p q, sv] false (some t)) =>
      if t = tyB then
        (match q with
        | none => some (un, h.set id (.cells [.p (some (id, 0)), sv] false (some t)))
        | some q => if q = (id, 0) then some (un, h) else none)
      else none
    | _ => none
  | _ => none
def oString (args : List V) (h : Heap) : Option (V × Heap) :=
  match args with
  | [.p (some (id, 0))] =>
    match (h[id]? : Option Obj) with
    | some (.cells [.p _, .sl a n _ z] false (some t)) =>
      if t = tyB then
        match a with
        | none => if n = 0 then some (.s [], h) else none
        | some (bid, off) =>
          match (h[bid]? : Option Obj) with
          | some (.cells vs false (some e)) =>
            if e = tyU8 ∧ off = 0 ∧ z = 1 ∧ bid ≠ id ∧ 0 < n ∧ n ≤ vs.length ∧ n ≤ 35184372088832 then
              match bytesOf (vs.take n) with
              | some l => if sameL (vs.take n) (bytesV l) = true then some (.s l, h.set bid .dead) else none
              | none => none
            else none
          | _ => none
      else none
    | _ => none
  | _ => none
def O (f : Nat) : Option (List V → Heap → Option (V × Heap)) :=
  if f = n_strconv_Itoa then some oItoa else
  if f = n_strconv_Atoi then some oAtoi else
  if f = n_strings_Split then some oSplit else
  if f = n_strings_Join then some oJoin else
  if f = n_strings_IndexByte then some oIndexByte else
  if f = n_strings_Builder_copyCheck then some oCheck else
  if f = n_strings_Builder_String then some oString else none
def M : Mach := ⟨O, F⟩
/-! What holds of a heap in which the package's variables lie. -/
theorem Keeps.gl {h h' : Heap} (k : Keeps h h') (hg : glOk h = true) : glOk h' = true := by
  unfold glOk at hg ⊢
  have go : ∀ (i : Nat), (∃ o : Obj, h[i]? = some o) → h'[i]? = h[i]? := fun i ⟨o, e⟩ => by rw [e]; exact k.2 i o e
  simp only [Bool.and_eq_true] at hg ⊢
  obtain ⟨⟨⟨⟨h0, h1⟩, h2⟩, h3⟩, h4⟩ := hg
  refine ⟨⟨⟨⟨?_, ?_⟩, ?_⟩, ?_⟩, ?_⟩
  · rw [go 0]; · exact h0
    · cases e : (h[0]? : Option Obj) with | none => rw [e] at h0; cases h0 | some o => exact ⟨o, rfl⟩
  · rw [go 1]; · exact h1
    · cases e : (h[1]? : Option Obj) with | none => rw [e] at h1; cases h1 | some o => exact ⟨o, rfl⟩
  · rw [go 2]; · exact h2
    · cases e : (h[2]? : Option Obj) with | none => rw [e] at h2; cases h2 | some o => exact ⟨o, rfl⟩
  · rw [go 3]; · exact h3
    · cases e : (h[3]? : Option Obj) with | none => rw [e] at h3; cases h3 | some o => exact ⟨o, rfl⟩
  · rw [go 4]; · exact h4
    · cases e : (h[4]? : Option Obj) with | none => rw [e] at h4; cases h4 | some o => exact ⟨o, rfl⟩
theorem s_Itoa (n : Int) (h : Heap) (hg : glOk h = true) (h1 : -9223372036854775808 ≤ n) (h2 : n ≤ 9223372036854775807) : To M n_strconv_Itoa [.i .i64 n] h (.s (itoaL n)) h :=
  To_oracle (g := oItoa) rfl (by simp [oItoa, hg, h1, h2])
theorem s_Atoi_ok (l : List UInt8) (h : Heap) (hg : glOk h = true) (hl : l.length ≤ 1000000) (v : Int) (hv : Lib.atoiAll l = .ok v) : To M n_strconv_Atoi [.s l] h (.t [.i .i64 v, .ni]) h :=
  To_oracle (g := oAtoi) rfl (by simp [oAtoi, hg, hl, hv])
theorem s_Atoi_err (l : List UInt8) (h : Heap) (hg : glOk h = true) (hl : l.length ≤ 1000000) (hv : ∀ v, Lib.atoiAll l ≠ .ok v) : ∃ n, To M n_strconv_Atoi [.s l] h (.t [.i .i64 n, .ic tyNE (.p (some (h.length, 0)))]) (h ++ [.dead]) := by
  cases e : Lib.atoiAll l with
  | ok v => exact absurd e (hv v)
  | range => exact ⟨Lib.atoiSat l, To_oracle (g := oAtoi) rfl (by simp [oAtoi, hg, hl, e])⟩
  | _ => exact ⟨0, To_oracle (g := oAtoi) rfl (by simp [oAtoi, hg, hl, e])⟩
theorem atoi_bounds {l : List UInt8} {v : Int} (h : Lib.atoiAll l = .ok v) : -9223372036854775808 ≤ v ∧ v ≤ 9223372036854775807 := by
  unfold Lib.atoiAll at h
  split at h
  · cases h
  · rename_i c r
    simp only at h
    split at h
    · cases h
    · cases h
    · rename_i u hu
      split at h
      · cases h
      · rename_i h1
        split at h
        · cases h
        · rename_i h2
          injection h with h
          subst h
          by_cases hn : c.toNat = 45
          · simp only [hn, not_true_eq_false, false_and, not_false_eq_true, true_and, if_true] at h1 h2 ⊢
            omega
          · simp only [hn, not_false_eq_true, true_and, if_false] at h1 h2 ⊢
            omega
theorem s_Split (b : UInt8) (l : List UInt8) (h : Heap) (hg : glOk h = true) (hl : l.length ≤ 1000000) :
    To M n_strings_Split [.s l, .s [b]] h (.sl (some (h.length, 0)) (splitL b l).length (some (splitL b l).length) 1) (h ++ [.cells ((splitL b l).map .s) false none]) :=
  To_oracle (g := oSplit) rfl (by simp [oSplit, hg, hl])
theorem s_IndexByte (l : List UInt8) (c : UInt8) (h : Heap) : To M n_strings_IndexByte [.s l, .i .u8 c.toNat] h (.i .i64 (idxL c l 0)) h :=
  To_oracle (g := oIndexByte) rfl (by
    have := c.toNat_lt
    simp only [oIndexByte]
    rw [if_pos ⟨by omega, by omega⟩]
    simp)
end Am
end Go.Proofs.YtjjkjfdojifchaaDoor
