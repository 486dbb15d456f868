/-
  THE WORLD IN WHICH A CALL BEGINS: what the row lists, and its shape, give what the machine asks.
  Conditions: none (what is asked of the world stands in the statement).
-/
import Derived.Test.YtjjkjfdojifchaaDoorLa2
import Derived.Test.YtjjkjfdojifchaaDoorRows
import Derived.MakeChecks
import Derived.Shelf.Vars
set_option linter.unusedVariables false
set_option linter.unusedSimpArgs false
namespace Go.Proofs.YtjjkjfdojifchaaDoor
namespace Am
open Go.RowKit Go.Proofs
theorem star : "*" ++ "errors.errorString" = "*errors.errorString" := by decide
theorem errRow : ∀ u, Tryd.prog.typeName? 3 u = some "*errors.errorString" → u = 135 := fun u h =>
  typeName_ptr_named (nm := "errors.errorString") (by rw [star]; kernel_rfl) (by kernel_rfl) (by decide) u (by rw [star]; exact h)
/-- The rows' list. -/
def laidL : List (String × DataW Unit) := [("math/bits.deBruijn32tab", Rows.laid_math_bits_deBruijn32tab), ("math/bits.deBruijn64tab", Rows.laid_math_bits_deBruijn64tab), ("internal/strconv.uint64pow10", Rows.laid_internal_strconv_uint64pow10), ("unicode/utf8.acceptRanges", Rows.laid_unicode_utf8_acceptRanges), ("strconv.ErrRange", Rows.laid_strconv_ErrRange), ("strconv.ErrSyntax", Rows.laid_strconv_ErrSyntax), ("polliwog/event.words", Rows.laid_polliwog_event_words), ("unicode/utf8.first", Rows.laid_unicode_utf8_first)]
theorem heap_of_var {P : Program} {W : World} {n : String} {g : Nat} {cs : Array Value} (hg : P.globalNamed n = some g) (h : W.var? P n = some cs) : ∃ T fz, W.heap[g]? = some (.cells cs T fz) := by
  unfold World.var? at h
  rw [hg] at h
  simp only [Option.bind_some] at h
  split at h
  · rename_i cs' T fz e
    injection h with h
    subst h
    exact ⟨T, fz, e⟩
  · cases h
theorem pow_is : (Rows.laid_internal_strconv_uint64pow10 : DataW Unit) = Lib.tabData .u64 Lib.pow10Tab := by kernel_rfl
def wordsL : List (List UInt8) := wordsV.filterMap fun v => match v with | .s l => some l | _ => none
theorem words_is : (Rows.laid_polliwog_event_words : DataW Unit) = .agg (wordsL.map fun l => .lit (.string l)) := by kernel_rfl
theorem world_ok {W : World} (hl : laidMetH Tryd.prog laidL W) (hsh : W.ShapedOpen Tryd.prog) : ∃ tp m te3 te4 b3 o3 b4 o4, WOk W tp m te3 te4 b3 o3 b4 o4 := by
  rw [MakeChecks.laidMetH_plain _ _ _ (by kernel_rfl)] at hl
  have g0 : Tryd.prog.globalNamed "polliwog/event.words" = some gv0 := by kernel_rfl
  have g1 : Tryd.prog.globalNamed "internal/strconv.uint64pow10" = some gv1 := by kernel_rfl
  have g3 : Tryd.prog.globalNamed "strconv.ErrSyntax" = some gv3 := by kernel_rfl
  have g4 : Tryd.prog.globalNamed "strconv.ErrRange" = some gv4 := by kernel_rfl
  have hpow : Lib.TabIs Tryd.prog W "internal/strconv.uint64pow10" .u64 Lib.pow10Tab := by
    have h := hl.tail.tail
    rw [pow_is] at h
    exact Lib.tabIs_of_head g1 (t := 118) (e := 104) (n := 20) (by kernel_rfl) Tryd.underlying118 Tryd.underlying104 (by kernel_rfl) (by kernel_rfl) h
  have hr := hl.tail.tail.tail.tail
  obtain ⟨a4, s4, v4, c4, _, _⟩ := laid_sentinel (n := "strconv.ErrRange") hr g4 (ti := 85) (by kernel_rfl) Tryd.underlying85 errRow Tryd.underlying135 Tryd.underlying137 rfl rfl Tryd.underlying9 (by kernel_rfl) (by kernel_rfl)
  obtain ⟨a3, s3, v3, c3, _, _⟩ := laid_sentinel (n := "strconv.ErrSyntax") hr.tail g3 (ti := 85) (by kernel_rfl) Tryd.underlying85 errRow Tryd.underlying135 Tryd.underlying137 rfl rfl Tryd.underlying9 (by kernel_rfl) (by kernel_rfl)
  obtain ⟨e3, l3⟩ := addr_of_cell c3
  obtain ⟨e4, l4⟩ := addr_of_cell c4
  have hw := hr.tail.tail
  obtain ⟨ps, ⟨g', t', cs, fuel, p, q, q1, q2, q3, q4, _⟩, _⟩ := hw
  have q2' : (Tryd.prog.globals[gv0]?).map (·.type) = some 90 := by kernel_rfl
  obtain rfl := Option.some.inj (g0.symm.trans q1)
  obtain rfl := Option.some.inj (q2'.symm.trans q2)
  have hcs := cells_of_texts (ls := wordsL) Tryd.underlying90 Tryd.underlying9 (by kernel_rfl) (by kernel_rfl) (by rw [← words_is]; exact q4)
  obtain ⟨T0, f0, h0⟩ := heap_of_var g0 q3
  obtain ⟨T3, f3, h3⟩ := heap_of_var g3 v3
  obtain ⟨T4, f4, h4⟩ := heap_of_var g4 v4
  obtain ⟨T1, f1, h1⟩ := heap_of_var g1 hpow
  obtain ⟨m, hm⟩ : ∃ m, W.cell? ⟨gv2, 0, none⟩ = some (.int .i64 m) := cell_of_shapedOpen_int (zero := #[.int .i64 0]) (t := 3) hsh (of_decide_eq_true (by kernel_rfl)) (by kernel_rfl) rfl (by kernel_rfl) (by kernel_rfl) Tryd.underlying3
  obtain ⟨cs2, h2, n2, _⟩ := hsh.1 gv2 #[.int .i64 0] 3 (of_decide_eq_true (by kernel_rfl)) (by kernel_rfl)
  obtain ⟨cs1, h1', n1, _⟩ := hsh.1 gv1 (Array.replicate 20 (.int .u64 0)) 118 (of_decide_eq_true (by kernel_rfl)) (by kernel_rfl)
  have hT1 : f1 = (0, 0) ∧ T1 = 118 := by
    rw [h1] at h1'
    injection h1' with h1'
    injection h1' with x1 x2 x3
    exact ⟨x3, x2⟩
  have hm2 : cs2 = #[.int .i64 m] := by
    unfold World.cell? at hm
    simp only [h2] at hm
    have hsz : cs2.size = 1 := n2
    apply Array.ext_getElem?
    intro i
    match i with
    | 0 => simpa using hm
    | i + 1 => rw [Array.getElem?_eq_none (by omega), Array.getElem?_eq_none (by simp)]
  subst hm2
  have hcs' : cs = (wordsL.map fun l => Value.string ⟨l.toArray⟩).toArray := by rw [← hcs]
  subst hcs'
  rw [e3] at h3
  rw [e4] at h4
  refine ⟨118, m, _, _, a3.block, a3.off, a4.block, a4.off, ⟨⟨_, _, _, h0, rfl, ?_⟩, ⟨_, _, by rw [hT1.2] at h1; exact h1, rfl, ?_⟩, by decide, ⟨_, _, h2⟩, ⟨_, _, h3⟩, ⟨_, _, h4⟩, l3, l4⟩⟩
  · intro j v hj
    rw [show wordsV = wordsL.map .s from rfl, List.getElem?_map] at hj
    cases hk : wordsL[j]? with
    | none => rw [hk] at hj; cases hj
    | some l =>
      rw [hk] at hj
      injection hj with hj
      subst hj
      exact ⟨rfl, .string ⟨l.toArray⟩, by simp [hk], fun σ => .s l⟩
  · intro j v hj
    have hj20 : j < 20 := (List.getElem?_eq_some_iff.1 hj).1
    rw [pow_get j hj20] at hj
    injection hj with hj
    subst hj
    exact ⟨rfl, .int .u64 ((10 ^ j : Nat) : Int), by simp [Lib.pow10Tab, hj20], fun σ => .i _ _⟩
end Am
end Go.Proofs.YtjjkjfdojifchaaDoor
