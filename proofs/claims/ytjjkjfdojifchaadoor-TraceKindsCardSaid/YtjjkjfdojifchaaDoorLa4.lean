/-
  A SLICE THAT CAME IN, AS THE MACHINE'S ROW; THE DOCUMENT'S UNIT THAT CAME IN.
  Conditions: none.
-/
import Derived.Test.YtjjkjfdojifchaaDoorLa3
import Derived.Test.YtjjkjfdojifchaaDoorSp1
import Derived.ChangeSlices
set_option linter.unusedVariables false
set_option maxRecDepth 100000
set_option linter.unusedSimpArgs false
namespace Go.Proofs.YtjjkjfdojifchaaDoor
namespace Am
open Go.RowKit Go.Proofs Go.ChangeShapes
theorem rowAt_off {p : Program} {fits : TypeId → Bool} {d : Nat} {e : TypeId} {count off n : Nat} (h : rowAt p fits d e count off n = true) : off ≤ count * p.cellsOf e := by
  cases d with
  | zero => simp [rowAt] at h
  | succ d =>
    unfold rowAt at h
    simp only at h
    by_cases hs : p.cellsOf e = 0
    · rw [if_pos hs] at h; cases h
    · rw [if_neg hs] at h
      have hdm := Nat.div_add_mod off (p.cellsOf e)
      have hml := Nat.mod_lt off (Nat.pos_of_ne_zero hs)
      simp only [Bool.or_eq_true, Bool.and_eq_true, beq_iff_eq, decide_eq_true_eq] at h
      rcases h with ⟨⟨h1, h2⟩, _⟩ | ⟨h1, _⟩
      · have : off / p.cellsOf e * p.cellsOf e ≤ count * p.cellsOf e := Nat.mul_le_mul_right _ (by omega)
        rw [Nat.mul_comm] at hdm
        omega
      · have : (off / p.cellsOf e + 1) * p.cellsOf e ≤ count * p.cellsOf e := Nat.mul_le_mul_right _ h1
        rw [Nat.add_mul, Nat.one_mul] at this
        rw [Nat.mul_comm] at hdm
        omega
theorem liesAt_off {p : Program} : ∀ {d : Nat} {e : TypeId} {count off : Nat} {u : TypeId} {n : Nat}, liesAt p d e count off u n = true → off ≤ count * p.cellsOf e := by
  intro d
  induction d with
  | zero => intro e count off u n h; simp [liesAt] at h
  | succ d ih =>
    intro e count off u n h
    unfold liesAt at h
    simp only [Bool.or_eq_true] at h
    rcases h with h | h
    · exact rowAt_off h
    · split at h
      · exact ih h
      · cases h
theorem has_off {P : Program} {w : World} {r : Reach} {base : Nat} {a : Addr} {e : TypeId} {n : Nat} (h : w.has P r base a e n) : a.spot = none ∧ ∃ row cells, w.shape? a.block = some (row, cells) ∧ a.off ≤ cells := by
  obtain ⟨_, hs, row, cells, h1, h2⟩ := h
  refine ⟨hs, row, cells, h1, ?_⟩
  have h3 := liesAt_off h2
  exact Nat.le_trans h3 (Nat.div_mul_le_self _ _)
/-- A slice of numbers that came in. -/
theorem int_row {H : Type} {enc : TypeId × Value → H} {P : Program} {W : World} {held : Bool} {fuel : Nat} {t e : TypeId} {k : IntKind} {cs : List Value} {x : DataW H × List MemPlace} {r : Reach} {base : Nat} (ht : P.underlying t = some (.slice e)) (he : P.underlying e = some (.int k)) (hc : P.cellsOf e = 1)
    (h : DataW.trod enc P W 0 (fun _ => true) held fuel t cs = some x) (hok : ∀ v, cs = [v] → Cell.okWide P W r base t v) :
    cs = [.slice none 0 0] ∨ ∃ b off len cap n, ∃ zs : List Int, cs = [.slice (some ⟨b, off, none⟩) len cap] ∧ zs.length = len ∧ (∀ z ∈ zs, (Lit.int k z).wf = true) ∧ b < W.heap.size ∧ (∀ σ B, OR σ B W ⟨b, off, n⟩ (.cells (zs.map (.i k)) true none)) ∧
      ∀ (σ : Sg) (id : Nat), σ id = some ⟨b, off, n⟩ → VR σ (.sl (some (id, 0)) len none 1) (.slice (some ⟨b, off, none⟩) len cap) := by
  rcases open_ints ht he hc h with ⟨e1, _⟩ | ⟨a, len, cap, zs, e1, _, hlc, _, hzl, _, hcell, hwf⟩
  · exact .inl e1
  · right
    have hk := hok _ e1
    have hk' : W.has P r base a e cap := by
      unfold Cell.okWide at hk
      rw [ht] at hk
      simp only [Cell.ok, ht] at hk
      exact hk.2.2
    obtain ⟨hsp, row, cells, hsh, hoff⟩ := has_off hk'
    obtain ⟨b, off, sp⟩ := a
    simp only at hsp hsh hoff
    subst hsp
    simp only [if_true] at hzl
    have hcell' : ∀ i, i < cap → W.cell? ⟨b, off + i, none⟩ = some (.int k (zs.getD i 0)) := fun i hi => by
      have := hcell i (by omega)
      rwa [add0] at this
    have hroom : off + cap ≤ cells := by
      rcases Nat.eq_zero_or_pos cap with h0 | h0
      · omega
      · have h1 := hcell' (cap - 1) (by omega)
        unfold World.cell? at h1
        unfold World.shape? at hsh
        simp only at h1
        generalize W.heap[b]? = ob at h1 hsh
        match ob, h1, hsh with
        | some (.cells c T fz), h1, hsh =>
          simp only at h1 hsh
          injection hsh with hsh
          injection hsh with _ hsz
          simp only [Option.isSome_none, Bool.false_eq_true, if_false] at h1
          have := (Array.getElem?_eq_some_iff.1 h1).1
          omega
    have hb : b < W.heap.size := by
      unfold World.shape? at hsh
      rcases Nat.lt_or_ge b W.heap.size with h' | h'
      · exact h'
      · rw [Array.getElem?_eq_none h'] at hsh; cases hsh
    refine ⟨b, off, len, cap, cells, zs.take len, e1, by rw [List.length_take]; omega, fun z hz => hwf z (List.mem_of_mem_take hz), hb, fun σ B => ⟨⟨row, hsh, fun t e => by cases e⟩, by simp; omega, (fun c => by cases c), fun j v hj => ?_⟩, fun σ id hs => VR.sl hs (fun _ => rfl) (by simp; omega) hlc (fun k hk => by cases hk)⟩
    rw [List.getElem?_map] at hj
    cases hz : (zs.take len)[j]? with
    | none => rw [hz] at hj; cases hj
    | some z =>
      rw [hz] at hj
      injection hj with hj
      subst hj
      have hjl : j < len := by have := (List.getElem?_eq_some_iff.1 hz).1; rw [List.length_take] at this; omega
      rw [List.getElem?_take_of_lt hjl] at hz
      refine ⟨rfl, _, hcell' j (by omega), ?_⟩
      rw [show zs.getD j 0 = z from by simp [List.getD, hz]]
      exact .i _ _
theorem len8 {α : Type} {l : List α} (h : l.length = 8) : ∃ a b c d e f g i, l = [a, b, c, d, e, f, g, i] := by
  rcases l with _ | ⟨a, _ | ⟨b, _ | ⟨c, _ | ⟨d, _ | ⟨e, _ | ⟨f, _ | ⟨g, _ | ⟨i, _ | ⟨j, l⟩⟩⟩⟩⟩⟩⟩⟩⟩ <;> simp at h
  exact ⟨a, b, c, d, e, f, g, i, rfl⟩
theorem ref_open {H : Type} {enc : TypeId × Value → H} {W : World} {held : Bool} {fuel : Nat} {cs : List Value} {x : DataW H × List MemPlace} (h : DataW.trod enc Tryd.prog W 0 (fun _ => true) held fuel 37 cs = some x) :
    ∃ kind sq n ps mr c5 self data y fuel', cs = [.int .i64 kind, .int .i64 sq, .int .i64 n, .int .i64 ps, .int .i64 mr, c5, .bool self, .string data] ∧ DataW.trod enc Tryd.prog W 0 (fun _ => true) held fuel' 35 [c5] = some y := by
  obtain ⟨hl, f', hf⟩ := trod_fields Tryd.underlying37 h
  have hl8 : cs.length = 8 := hl.trans (by kernel_rfl)
  obtain ⟨c0, c1, c2, c3, c4, c5, c6, c7, rfl⟩ := len8 hl8
  have z3 : Tryd.prog.cellsOf 3 = 1 := by kernel_rfl
  have z4 : Tryd.prog.cellsOf 4 = 1 := by kernel_rfl
  have z9 : Tryd.prog.cellsOf 9 = 1 := by kernel_rfl
  have z5 : Tryd.prog.cellsOf 35 = 1 := by kernel_rfl
  obtain ⟨y0, r0⟩ := hf 0 _ rfl
  obtain ⟨y1, r1⟩ := hf 1 _ rfl
  obtain ⟨y2, r2⟩ := hf 2 _ rfl
  obtain ⟨y3, r3⟩ := hf 3 _ rfl
  obtain ⟨y4, r4⟩ := hf 4 _ rfl
  obtain ⟨y5, r5⟩ := hf 5 _ rfl
  obtain ⟨y6, r6⟩ := hf 6 _ rfl
  obtain ⟨y7, r7⟩ := hf 7 _ rfl
  simp only [z3, z4, z5, z9, List.drop_zero, List.drop_succ_cons, List.take_succ_cons, List.take_zero] at r0 r1 r2 r3 r4 r5 r6 r7
  obtain ⟨n0, e0, _⟩ := trod_num Tryd.underlying3 r0
  obtain ⟨n1, e1, _⟩ := trod_num Tryd.underlying3 r1
  obtain ⟨n2, e2, _⟩ := trod_num Tryd.underlying3 r2
  obtain ⟨n3, e3, _⟩ := trod_num Tryd.underlying3 r3
  obtain ⟨n4, e4, _⟩ := trod_num Tryd.underlying3 r4
  obtain ⟨b, e6⟩ := trod_bool Tryd.underlying4 r6
  obtain ⟨s, e7, _⟩ := trod_str Tryd.underlying9 r7
  injection e0 with e0 _; injection e1 with e1 _; injection e2 with e2 _; injection e3 with e3 _; injection e4 with e4 _; injection e6 with e6 _; injection e7 with e7 _
  subst e0 e1 e2 e3 e4 e6 e7
  exact ⟨n0, n1, n2, n3, n4, c5, b, s, y5, f', rfl, r5⟩
/-- A unit that came in: its value, its row. -/
theorem ref_value {H : Type} {enc : TypeId × Value → H} {W : World} {held : Bool} {fuel : Nat} {v : Value} {x : DataW H × List MemPlace} {r : Reach} {base : Nat} (hok : Value.okWide Tryd.prog W r base 37 v) (h : DataW.trod enc Tryd.prog W 0 (fun _ => true) held fuel 37 v.cells.toList = some x) :
    ∃ (u : U) (a : Nat → Option (Nat × Nat)) (c : Option Nat) (z : Nat) (rows : List Obj) (ls : List (Option Loc)), ls.length = rows.length ∧ rows.length ≤ 1 ∧
      (∀ (k : Nat) o l, rows[k]? = some o → ls[k]? = some (some l) → l.b < W.heap.size ∧ o.live = false ∧ ∀ σ, OR σ W.heap.size W l o) ∧ (∀ o ∈ rows, o.live = false) ∧
      (∀ (σ : Sg) (id : Nat), (∀ (l : Loc), ls[0]? = some (some l) → σ id = some l) → VR σ (rV u (a id) c z) v) ∧
      (∀ (h : Heap) (id : Nat), (∀ o, rows[0]? = some o → h[id]? = some o) → R1 h (a id) z (u.list.map (.i .i64))) := by
  unfold Value.okWide at hok
  rw [Tryd.underlying37] at hok
  obtain ⟨ca, rfl, _, ts, hts, _, hall⟩ := hok
  have hts' : Tryd.prog.cellTypes Tryd.prog.depth 37 = some [3, 3, 3, 3, 3, 35, 4, 9] := by kernel_rfl
  obtain rfl := Option.some.inj (hts'.symm.trans hts)
  obtain ⟨kind, sq, n, ps, mr, c5, self, data, y, f', hcs, h5⟩ := ref_open h
  have hca : ca = #[.int .i64 kind, .int .i64 sq, .int .i64 n, .int .i64 ps, .int .i64 mr, c5, .bool self, .string data] := by
    have h1 : ca.toList = _ := hcs
    cases ca
    simpa using h1
  subst hca
  have ok5 : Cell.okWide Tryd.prog W r base 35 c5 := by
    obtain ⟨u, hu, hk⟩ := hall 5 c5 rfl
    obtain rfl : 35 = u := by simpa using hu
    exact hk
  have hd : VR (fun _ => none) (.s data.data.toList) (.string data) := by
    have := VR.s (σ := fun _ => none) data.data.toList
    rwa [string_eta] at this
  have hds : ∀ σ : Sg, VR σ (.s data.data.toList) (.string data) := fun σ => by
    have := VR.s (σ := σ) data.data.toList
    rwa [string_eta] at this
  rcases int_row Tryd.underlying35 Tryd.underlying3 (by kernel_rfl) h5 (fun v e => by injection e with e _; subst e; exact ok5) with e5 | ⟨b, off, len, cap, nn, zs, e5, hzl, _, hb, hOR, hVR⟩
  · injection e5 with e5 _
    subst e5
    refine ⟨⟨kind, sq, n, ps, mr, [], self, data.data.toList⟩, fun _ => none, some 0, 0, [], [], rfl, by simp, (fun k o l hk => by simp at hk), (fun o ho => by cases ho), fun σ id _ => ?_, fun h id _ => rfl⟩
    exact .g (.cons (.i _ _) (.cons (.i _ _) (.cons (.i _ _) (.cons (.i _ _) (.cons (.i _ _) (.cons (.sl0 0) (.cons (.b _) (.cons (hds σ) .nil))))))))
  · injection e5 with e5 _
    subst e5
    subst hzl
    refine ⟨⟨kind, sq, n, ps, mr, zs, self, data.data.toList⟩, fun id => some (id, 0), none, 1, [.cells (zs.map (.i .i64)) true none], [some ⟨b, off, nn⟩], rfl, by simp, fun k o l hk hl => ?_, (fun o ho => by simp at ho; subst ho; rfl), fun σ id hs => ?_, fun h id hh => R1_get (hh _ rfl)⟩
    · match k, hk, hl with
      | 0, hk, hl =>
        cases hk; cases hl
        exact ⟨hb, rfl, fun σ => hOR σ _⟩
    · exact .g (.cons (.i _ _) (.cons (.i _ _) (.cons (.i _ _) (.cons (.i _ _) (.cons (.i _ _) (.cons (hVR σ id (hs _ rfl)) (.cons (.b _) (.cons (hds σ) .nil))))))))
end Am
end Go.Proofs.YtjjkjfdojifchaaDoor
