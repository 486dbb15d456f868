/-
  A SLICE THAT CAME IN, AS THE MACHINE'S ROW; THE DOCUMENT'S CONFIGURATION THAT CAME IN; LinkConfigs, walked.
  Conditions: none (what is asked of the world stands in each statement).
-/
import Derived.Test.YtcndgnddipbbgaaGreatGz3
import Derived.Test.YtcndgnddipbbgaaGreatLc3
import Derived.Test.YtcndgnddipbbgaaGreatCz
import Derived.Test.YtcndgnddipbbgaaGreatRu1
import Derived.Test.YtcndgnddipbbgaaGreatLa1
import Derived.ChangeSlices
import Derived.ChangeMaps5
set_option linter.unusedVariables false
set_option maxRecDepth 100000
set_option linter.unusedSimpArgs false
namespace Go.Proofs.YtcndgnddipbbgaaGreat
namespace Am
open Go.RowKit Go.Proofs Go.ChangeShapes Go.ChangeMaps
theorem rowAt_off {p : Program} {fits : TypeId → Bool} {d : Nat} {e : TypeId} {count off n : Nat} (h : rowAt p fits d e count off n = true) : off ≤ count * p.cellsOf e := by
  cases d with
  | zero => simp [rowAt] at h
  | succ d =>
    unfold rowAt at h
    simp only at h
    by_cases hs : p.cellsOf e = 0
    · rw [if_pos hs] at h; cases h
    · rw [if_neg hs] at h
      have hdm := Nat.div_add_mod off (p.cellsOf e)
      have hml := Nat.mod_lt off (Nat.pos_of_ne_zero hs)
      simp only [Bool.or_eq_true, Bool.and_eq_true, beq_iff_eq, decide_eq_true_eq] at h
      rcases h with ⟨⟨h1, h2⟩, _⟩ | ⟨h1, _⟩
      · have : off / p.cellsOf e * p.cellsOf e ≤ count * p.cellsOf e := Nat.mul_le_mul_right _ (by omega)
        rw [Nat.mul_comm] at hdm
        omega
      · have : (off / p.cellsOf e + 1) * p.cellsOf e ≤ count * p.cellsOf e := Nat.mul_le_mul_right _ h1
        rw [Nat.add_mul, Nat.one_mul] at this
        rw [Nat.mul_comm] at hdm
        omega
theorem liesAt_off {p : Program} : ∀ {d : Nat} {e : TypeId} {count off : Nat} {u : TypeId} {n : Nat}, liesAt p d e count off u n = true → off ≤ count * p.cellsOf e := by
  intro d
  induction d with
  | zero => intro e count off u n h; simp [liesAt] at h
  | succ d ih =>
    intro e count off u n h
    unfold liesAt at h
    simp only [Bool.or_eq_true] at h
    rcases h with h | h
    · exact rowAt_off h
    · split at h
      · exact ih h
      · cases h
theorem has_off {P : Program} {w : World} {r : Reach} {base : Nat} {a : Addr} {e : TypeId} {n : Nat} (h : w.has P r base a e n) : a.spot = none ∧ ∃ row cells, w.shape? a.block = some (row, cells) ∧ a.off ≤ cells := by
  obtain ⟨_, hs, row, cells, h1, h2⟩ := h
  refine ⟨hs, row, cells, h1, ?_⟩
  have h3 := liesAt_off h2
  exact Nat.le_trans h3 (Nat.div_mul_le_self _ _)
/-- A slice of numbers that came in. -/
theorem int_row {H : Type} {enc : TypeId × Value → H} {P : Program} {W : World} {held : Bool} {fuel : Nat} {t e : TypeId} {k : IntKind} {cs : List Value} {x : DataW H × List MemPlace} {r : Reach} {base : Nat} (ht : P.underlying t = some (.slice e)) (he : P.underlying e = some (.int k)) (hc : P.cellsOf e = 1)
    (h : DataW.trod enc P W 0 (fun _ => true) held fuel t cs = some x) (hok : ∀ v, cs = [v] → Cell.okWide P W r base t v) :
    cs = [.slice none 0 0] ∨ ∃ b off len cap n, ∃ zs : List Int, cs = [.slice (some ⟨b, off, none⟩) len cap] ∧ zs.length = len ∧ (∀ z ∈ zs, (Lit.int k z).wf = true) ∧ b < W.heap.size ∧ (∀ σ B, OR σ B W ⟨b, off, n⟩ (.cells (zs.map (.i k)) true none)) ∧
      ∀ (σ : Sg) (id : Nat), σ id = some ⟨b, off, n⟩ → VR σ (.sl (some (id, 0)) len none 1) (.slice (some ⟨b, off, none⟩) len cap) := by
  rcases open_ints ht he hc h with ⟨e1, _⟩ | ⟨a, len, cap, zs, e1, _, hlc, _, hzl, _, hcell, hwf⟩
  · exact .inl e1
  · right
    have hk := hok _ e1
    have hk' : W.has P r base a e cap := by
      unfold Cell.okWide at hk
      rw [ht] at hk
      simp only [Cell.ok, ht] at hk
      exact hk.2.2
    obtain ⟨hsp, row, cells, hsh, hoff⟩ := has_off hk'
    obtain ⟨b, off, sp⟩ := a
    simp only at hsp hsh hoff
    subst hsp
    simp only [if_true] at hzl
    have hcell' : ∀ i, i < cap → W.cell? ⟨b, off + i, none⟩ = some (.int k (zs.getD i 0)) := fun i hi => by
      have := hcell i (by omega)
      rwa [add0] at this
    have hroom : off + cap ≤ cells := by
      rcases Nat.eq_zero_or_pos cap with h0 | h0
      · omega
      · have h1 := hcell' (cap - 1) (by omega)
        unfold World.cell? at h1
        unfold World.shape? at hsh
        simp only at h1
        generalize W.heap[b]? = ob at h1 hsh
        match ob, h1, hsh with
        | some (.cells c T fz), h1, hsh =>
          simp only at h1 hsh
          injection hsh with hsh
          injection hsh with _ hsz
          simp only [Option.isSome_none, Bool.false_eq_true, if_false] at h1
          have := (Array.getElem?_eq_some_iff.1 h1).1
          omega
    have hb : b < W.heap.size := by
      unfold World.shape? at hsh
      rcases Nat.lt_or_ge b W.heap.size with h' | h'
      · exact h'
      · rw [Array.getElem?_eq_none h'] at hsh; cases hsh
    refine ⟨b, off, len, cap, cells, zs.take len, e1, by rw [List.length_take]; omega, fun z hz => hwf z (List.mem_of_mem_take hz), hb, fun σ B => ⟨⟨row, hsh, fun t e => by cases e⟩, by simp; omega, (fun c => by cases c), fun j v hj => ?_⟩, fun σ id hs => VR.sl hs (fun _ => rfl) (by simp; omega) hlc (fun k hk => by cases hk)⟩
    rw [List.getElem?_map] at hj
    cases hz : (zs.take len)[j]? with
    | none => rw [hz] at hj; cases hj
    | some z =>
      rw [hz] at hj
      injection hj with hj
      subst hj
      have hjl : j < len := by have := (List.getElem?_eq_some_iff.1 hz).1; rw [List.length_take] at this; omega
      rw [List.getElem?_take_of_lt hjl] at hz
      refine ⟨rfl, _, hcell' j (by omega), ?_⟩
      rw [show zs.getD j 0 = z from by simp [List.getD, hz]]
      exact .i _ _

theorem len15 {α : Type} {l : List α} (h : l.length = 15) : ∃ c0 c1 c2 c3 c4 c5 c6 c7 c8 c9 c10 c11 c12 c13 c14, l = [c0, c1, c2, c3, c4, c5, c6, c7, c8, c9, c10, c11, c12, c13, c14] := by
  have g : ∀ i (hi : i < 15), i < l.length := fun i hi => by omega
  refine ⟨l[0]'(g 0 (by decide)), l[1]'(g 1 (by decide)), l[2]'(g 2 (by decide)), l[3]'(g 3 (by decide)), l[4]'(g 4 (by decide)), l[5]'(g 5 (by decide)), l[6]'(g 6 (by decide)), l[7]'(g 7 (by decide)), l[8]'(g 8 (by decide)), l[9]'(g 9 (by decide)), l[10]'(g 10 (by decide)), l[11]'(g 11 (by decide)), l[12]'(g 12 (by decide)), l[13]'(g 13 (by decide)), l[14]'(g 14 (by decide)), ?_⟩
  apply List.ext_getElem
  · simpa using h
  · intro i h1 h2
    have hi : i < 15 := by omega
    rcases i with _ | _ | _ | _ | _ | _ | _ | _ | _ | _ | _ | _ | _ | _ | _ | i
    all_goals first | rfl | (exfalso; omega)
theorem cfg_open {H : Type} {enc : TypeId × Value → H} {W : World} {held : Bool} {fuel : Nat} {cs : List Value} {x : DataW H × List MemPlace} (h : DataW.trod enc Tryz.prog W 0 (fun _ => true) held fuel 26 cs = some x) :
    ∃ a0 a1 a2 a3 a4 a5 ca b0 b1 b2 b3 b4 b5 cb room y z fa fb, cs = [.int .i64 a0, .int .i64 a1, .int .i64 a2, .int .i64 a3, .int .i64 a4, .int .i64 a5, ca, .int .i64 b0, .int .i64 b1, .int .i64 b2, .int .i64 b3, .int .i64 b4, .int .i64 b5, cb, .int .i64 room] ∧
      DataW.trod enc Tryz.prog W 0 (fun _ => true) held fa 22 [ca] = some y ∧ DataW.trod enc Tryz.prog W 0 (fun _ => true) held fb 22 [cb] = some z := by
  obtain ⟨hl, f', hf⟩ := trod_fields Tryz.underlying26 h
  have hl15 : cs.length = 15 := hl.trans (by kernel_rfl)
  have z3 : Tryz.prog.cellsOf 3 = 1 := by kernel_rfl
  have z5 : Tryz.prog.cellsOf 22 = 1 := by kernel_rfl
  have zC : Tryz.prog.cellsOf 24 = 7 := by kernel_rfl
  obtain ⟨c0, c1, c2, c3, c4, c5, c6, c7, c8, c9, c10, c11, c12, c13, c14, rfl⟩ := len15 hl15
  obtain ⟨y0, r0⟩ := hf 0 _ rfl
  obtain ⟨y1, r1⟩ := hf 1 _ rfl
  obtain ⟨y2, r2⟩ := hf 2 _ rfl
  simp only [z3, zC, List.drop_zero, List.drop_succ_cons, List.take_succ_cons, List.take_zero] at r0 r1 r2
  obtain ⟨_, f0, hf0⟩ := trod_fields Tryz.underlying24 r0
  obtain ⟨_, f1, hf1⟩ := trod_fields Tryz.underlying24 r1
  obtain ⟨y00, r00⟩ := hf0 0 _ rfl
  obtain ⟨y01, r01⟩ := hf0 1 _ rfl
  obtain ⟨y02, r02⟩ := hf0 2 _ rfl
  obtain ⟨y03, r03⟩ := hf0 3 _ rfl
  obtain ⟨y04, r04⟩ := hf0 4 _ rfl
  obtain ⟨y05, r05⟩ := hf0 5 _ rfl
  obtain ⟨y06, r06⟩ := hf0 6 _ rfl
  obtain ⟨y10, r10⟩ := hf1 0 _ rfl
  obtain ⟨y11, r11⟩ := hf1 1 _ rfl
  obtain ⟨y12, r12⟩ := hf1 2 _ rfl
  obtain ⟨y13, r13⟩ := hf1 3 _ rfl
  obtain ⟨y14, r14⟩ := hf1 4 _ rfl
  obtain ⟨y15, r15⟩ := hf1 5 _ rfl
  obtain ⟨y16, r16⟩ := hf1 6 _ rfl
  simp only [z3, z5, List.drop_zero, List.drop_succ_cons, List.take_succ_cons, List.take_zero] at r00 r01 r02 r03 r04 r05 r06 r10 r11 r12 r13 r14 r15 r16
  obtain ⟨n00, e00, _⟩ := trod_num Tryz.underlying3 r00
  obtain ⟨n01, e01, _⟩ := trod_num Tryz.underlying3 r01
  obtain ⟨n02, e02, _⟩ := trod_num Tryz.underlying3 r02
  obtain ⟨n03, e03, _⟩ := trod_num Tryz.underlying3 r03
  obtain ⟨n04, e04, _⟩ := trod_num Tryz.underlying3 r04
  obtain ⟨n05, e05, _⟩ := trod_num Tryz.underlying3 r05
  obtain ⟨n10, e10, _⟩ := trod_num Tryz.underlying3 r10
  obtain ⟨n11, e11, _⟩ := trod_num Tryz.underlying3 r11
  obtain ⟨n12, e12, _⟩ := trod_num Tryz.underlying3 r12
  obtain ⟨n13, e13, _⟩ := trod_num Tryz.underlying3 r13
  obtain ⟨n14, e14, _⟩ := trod_num Tryz.underlying3 r14
  obtain ⟨n15, e15, _⟩ := trod_num Tryz.underlying3 r15
  obtain ⟨nr, er, _⟩ := trod_num Tryz.underlying3 r2
  injection e00 with e00 _
  injection e01 with e01 _
  injection e02 with e02 _
  injection e03 with e03 _
  injection e04 with e04 _
  injection e05 with e05 _
  injection e10 with e10 _
  injection e11 with e11 _
  injection e12 with e12 _
  injection e13 with e13 _
  injection e14 with e14 _
  injection e15 with e15 _
  injection er with er _
  subst e00 e01 e02 e03 e04 e05 e10 e11 e12 e13 e14 e15 er
  exact ⟨n00, n01, n02, n03, n04, n05, c6, n10, n11, n12, n13, n14, n15, c13, nr, y06, y16, f0, f1, rfl, r06, r16⟩
/-- A slice of numbers that came in: a row at most, and the value. -/
theorem ints_value {H : Type} {enc : TypeId × Value → H} {W : World} {held : Bool} {fuel : Nat} {c : Value} {x : DataW H × List MemPlace} {r : Reach} {base : Nat} (hok : Cell.okWide Tryz.prog W r base 22 c) (h : DataW.trod enc Tryz.prog W 0 (fun _ => true) held fuel 22 [c] = some x) :
    ∃ (zs : List Int) (a : Nat → Option (Nat × Nat)) (cp : Option Nat) (z : Nat) (rows : List Obj) (ls : List (Option Loc)), ls.length = rows.length ∧ rows.length ≤ 1 ∧
      (∀ (k : Nat) o l, rows[k]? = some o → ls[k]? = some (some l) → l.b < W.heap.size ∧ o.live = false ∧ ∀ σ, OR σ W.heap.size W l o) ∧ (∀ o ∈ rows, o.live = false) ∧
      (∀ (σ : Sg) (id : Nat), (∀ (l : Loc), ls[0]? = some (some l) → σ id = some l) → VR σ (.sl (a id) zs.length cp z) c) ∧
      (∀ (hp : Heap) (id : Nat), (∀ o, rows[0]? = some o → hp[id]? = some o) → ∀ c : Cf, ∃ c' : Cf, (c'.most = c.most ∧ c'.win = c.win ∧ c'.queue = c.queue ∧ c'.units = c.units ∧ c'.polls = c.polls ∧ c'.start = c.start) ∧ Ti hp (.sl (a id) zs.length cp z) c') := by
  rcases int_row Tryz.underlying22 Tryz.underlying3 (by kernel_rfl) h (fun v e => by injection e with e _; subst e; exact hok) with e5 | ⟨b, off, len, cap, nn, zs, e5, hzl, _, hb, hOR, hVR⟩
  · injection e5 with e5 _
    subst e5
    exact ⟨[], fun _ => none, some 0, 0, [], [], rfl, by simp, (fun k o l hk => by simp at hk), (fun o ho => by cases ho), fun σ id _ => .sl0 0, fun hp id _ c => ⟨c, ⟨rfl, rfl, rfl, rfl, rfl, rfl⟩, .inr ⟨none, 0, some 0, 0, rfl, by decide⟩⟩⟩
  · injection e5 with e5 _
    subst e5
    subst hzl
    refine ⟨zs, fun id => some (id, 0), none, 1, [.cells (zs.map (.i .i64)) true none], [some ⟨b, off, nn⟩], rfl, by simp, fun k o l hk hl => ?_, (fun o ho => by simp at ho; subst ho; rfl), fun σ id hs => hVR σ id (hs _ rfl), fun hp id hh c => ?_⟩
    · match k, hk, hl with
      | 0, hk, hl =>
        cases hk; cases hl
        exact ⟨hb, rfl, fun σ => hOR σ _⟩
    · by_cases h5 : zs.length = 5
      · match zs, h5, hh with
        | [t0, t1, t2, t3, t4], _, hh => exact ⟨⟨c.most, c.win, c.queue, c.units, c.polls, c.start, t0, t1, t2, t3, t4⟩, ⟨rfl, rfl, rfl, rfl, rfl, rfl⟩, .inl ⟨id, none, true, none, rfl, hh _ rfl⟩⟩
      · exact ⟨c, ⟨rfl, rfl, rfl, rfl, rfl, rfl⟩, .inr ⟨_, _, _, _, rfl, h5⟩⟩
theorem rows_app {W : World} {rows rows' : List Obj} {ls ls' : List (Option Loc)} (hlen : ls.length = rows.length)
    (hr : ∀ (k : Nat) o l, rows[k]? = some o → ls[k]? = some (some l) → l.b < W.heap.size ∧ o.live = false ∧ ∀ σ, OR σ W.heap.size W l o) (hr' : ∀ (k : Nat) o l, rows'[k]? = some o → ls'[k]? = some (some l) → l.b < W.heap.size ∧ o.live = false ∧ ∀ σ, OR σ W.heap.size W l o) :
    ∀ (k : Nat) o l, (rows ++ rows')[k]? = some o → (ls ++ ls')[k]? = some (some l) → l.b < W.heap.size ∧ o.live = false ∧ ∀ σ, OR σ W.heap.size W l o := by
  intro k o l h1 h2
  by_cases hk : k < rows.length
  · rw [List.getElem?_append_left hk] at h1
    rw [List.getElem?_append_left (by omega)] at h2
    exact hr k o l h1 h2
  · rw [List.getElem?_append_right (by omega)] at h1
    rw [List.getElem?_append_right (by omega), hlen] at h2
    exact hr' _ o l h1 h2
theorem rows_HR {W : World} {rows : List Obj} {ls : List (Option Loc)} (hlen : ls.length = rows.length)
    (hr : ∀ (k : Nat) o l, rows[k]? = some o → ls[k]? = some (some l) → l.b < W.heap.size ∧ o.live = false ∧ ∀ σ, OR σ W.heap.size W l o) (hlive : ∀ o ∈ rows, o.live = false) :
    HR (fun i => (ls[i]?).join) W.heap.size W rows W := by
  have hj : ∀ (i : Nat) (l : Loc), (ls[i]?).join = some l → ls[i]? = some (some l) := fun i l e => by
    cases hc : ls[i]? with
    | none => rw [hc] at e; cases e
    | some q => rw [hc] at e; cases q with
      | none => cases e
      | some q => rw [show q = l from Option.some.inj e]
  refine HR.first (fun i l e => ?_) (fun i o e => hlive o (List.mem_of_getElem? e)) (fun i o l e e' => (hr i o l e (hj i l e')).2.2 _)
  have h1 := hj i l e
  have h2 : i < rows.length := by rw [← hlen]; exact (List.getElem?_eq_some_iff.1 h1).1
  exact ⟨h2, (hr i _ l (List.getElem?_eq_getElem h2) h1).1⟩
end Am
end Go.Proofs.YtcndgnddipbbgaaGreat
