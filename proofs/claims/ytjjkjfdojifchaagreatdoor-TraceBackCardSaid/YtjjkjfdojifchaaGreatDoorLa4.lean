/-
  A SLICE THAT CAME IN, AS THE MACHINE'S ROW.
  Conditions: none.
-/
import Derived.Test.YtjjkjfdojifchaaGreatDoorLa2
import Derived.ChangeSlices
set_option linter.unusedVariables false
set_option linter.unusedSimpArgs false
namespace Go.Proofs.YtjjkjfdojifchaaGreatDoor
namespace Am
open Go.RowKit Go.Proofs Go.ChangeShapes
theorem rowAt_off {p : Program} {fits : TypeId → Bool} {d : Nat} {e : TypeId} {count off n : Nat} (h : rowAt p fits d e count off n = true) : off ≤ count * p.cellsOf e := by
  cases d with
  | zero => simp [rowAt] at h
  | succ d =>
    unfold rowAt at h
    simp only at h
    by_cases hs : p.cellsOf e = 0
    · rw [if_pos hs] at h; cases h
    · rw [if_neg hs] at h
      have hdm := Nat.div_add_mod off (p.cellsOf e)
      have hml := Nat.mod_lt off (Nat.pos_of_ne_zero hs)
      simp only [Bool.or_eq_true, Bool.and_eq_true, beq_iff_eq, decide_eq_true_eq] at h
      rcases h with ⟨⟨h1, h2⟩, _⟩ | ⟨h1, _⟩
      · have : off / p.cellsOf e * p.cellsOf e ≤ count * p.cellsOf e := Nat.mul_le_mul_right _ (by omega)
        rw [Nat.mul_comm] at hdm
        omega
      · have : (off / p.cellsOf e + 1) * p.cellsOf e ≤ count * p.cellsOf e := Nat.mul_le_mul_right _ h1
        rw [Nat.add_mul, Nat.one_mul] at this
        rw [Nat.mul_comm] at hdm
        omega
theorem liesAt_off {p : Program} : ∀ {d : Nat} {e : TypeId} {count off : Nat} {u : TypeId} {n : Nat}, liesAt p d e count off u n = true → off ≤ count * p.cellsOf e := by
  intro d
  induction d with
  | zero => intro e count off u n h; simp [liesAt] at h
  | succ d ih =>
    intro e count off u n h
    unfold liesAt at h
    simp only [Bool.or_eq_true] at h
    rcases h with h | h
    · exact rowAt_off h
    · split at h
      · exact ih h
      · cases h
theorem has_off {P : Program} {w : World} {r : Reach} {base : Nat} {a : Addr} {e : TypeId} {n : Nat} (h : w.has P r base a e n) : a.spot = none ∧ ∃ row cells, w.shape? a.block = some (row, cells) ∧ a.off ≤ cells := by
  obtain ⟨_, hs, row, cells, h1, h2⟩ := h
  refine ⟨hs, row, cells, h1, ?_⟩
  have h3 := liesAt_off h2
  exact Nat.le_trans h3 (Nat.div_mul_le_self _ _)
/-- A slice of numbers that came in. -/
theorem int_row {H : Type} {enc : TypeId × Value → H} {P : Program} {W : World} {held : Bool} {fuel : Nat} {t e : TypeId} {k : IntKind} {cs : List Value} {x : DataW H × List MemPlace} {r : Reach} {base : Nat} (ht : P.underlying t = some (.slice e)) (he : P.underlying e = some (.int k)) (hc : P.cellsOf e = 1)
    (h : DataW.trod enc P W 0 (fun _ => true) held fuel t cs = some x) (hok : ∀ v, cs = [v] → Cell.okWide P W r base t v) :
    cs = [.slice none 0 0] ∨ ∃ b off len cap n, ∃ zs : List Int, cs = [.slice (some ⟨b, off, none⟩) len cap] ∧ zs.length = len ∧ (∀ z ∈ zs, (Lit.int k z).wf = true) ∧ b < W.heap.size ∧ (∀ σ B, OR σ B W ⟨b, off, n⟩ (.cells (zs.map (.i k)) true none)) ∧
      ∀ (σ : Sg) (id : Nat), σ id = some ⟨b, off, n⟩ → VR σ (.sl (some (id, 0)) len none 1) (.slice (some ⟨b, off, none⟩) len cap) := by
  rcases open_ints ht he hc h with ⟨e1, _⟩ | ⟨a, len, cap, zs, e1, _, hlc, _, hzl, _, hcell, hwf⟩
  · exact .inl e1
  · right
    have hk := hok _ e1
    have hk' : W.has P r base a e cap := by
      unfold Cell.okWide at hk
      rw [ht] at hk
      simp only [Cell.ok, ht] at hk
      exact hk.2.2
    obtain ⟨hsp, row, cells, hsh, hoff⟩ := has_off hk'
    obtain ⟨b, off, sp⟩ := a
    simp only at hsp hsh hoff
    subst hsp
    simp only [if_true] at hzl
    have hcell' : ∀ i, i < cap → W.cell? ⟨b, off + i, none⟩ = some (.int k (zs.getD i 0)) := fun i hi => by
      have := hcell i (by omega)
      rwa [add0] at this
    have hroom : off + cap ≤ cells := by
      rcases Nat.eq_zero_or_pos cap with h0 | h0
      · omega
      · have h1 := hcell' (cap - 1) (by omega)
        unfold World.cell? at h1
        unfold World.shape? at hsh
        simp only at h1
        generalize W.heap[b]? = ob at h1 hsh
        match ob, h1, hsh with
        | some (.cells c T fz), h1, hsh =>
          simp only at h1 hsh
          injection hsh with hsh
          injection hsh with _ hsz
          simp only [Option.isSome_none, Bool.false_eq_true, if_false] at h1
          have := (Array.getElem?_eq_some_iff.1 h1).1
          omega
    have hb : b < W.heap.size := by
      unfold World.shape? at hsh
      rcases Nat.lt_or_ge b W.heap.size with h' | h'
      · exact h'
      · rw [Array.getElem?_eq_none h'] at hsh; cases hsh
    refine ⟨b, off, len, cap, cells, zs.take len, e1, by rw [List.length_take]; omega, fun z hz => hwf z (List.mem_of_mem_take hz), hb, fun σ B => ⟨⟨row, hsh, fun t e => by cases e⟩, by simp; omega, (fun c => by cases c), fun j v hj => ?_⟩, fun σ id hs => VR.sl hs (fun _ => rfl) (by simp; omega) hlc (fun k hk => by cases hk)⟩
    rw [List.getElem?_map] at hj
    cases hz : (zs.take len)[j]? with
    | none => rw [hz] at hj; cases hj
    | some z =>
      rw [hz] at hj
      injection hj with hj
      subst hj
      have hjl : j < len := by have := (List.getElem?_eq_some_iff.1 hz).1; rw [List.length_take] at this; omega
      rw [List.getElem?_take_of_lt hjl] at hz
      refine ⟨rfl, _, hcell' j (by omega), ?_⟩
      rw [show zs.getD j 0 = z from by simp [List.getD, hz]]
      exact .i _ _
end Am
end Go.Proofs.YtjjkjfdojifchaaGreatDoor
