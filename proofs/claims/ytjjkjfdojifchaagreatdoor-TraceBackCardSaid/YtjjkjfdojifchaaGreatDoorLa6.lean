/-
  THE LAW TraceBack, WALKED: whatever the unit, the call returns true, and nothing that was there is another.
  Conditions: none (what is asked of the world stands in the statement).
-/
import Derived.Test.YtjjkjfdojifchaaGreatDoorLa5
import Derived.Test.YtjjkjfdojifchaaGreatDoorSp20
set_option linter.unusedVariables false
set_option maxRecDepth 100000
set_option linter.unusedSimpArgs false
namespace Go.Proofs.YtjjkjfdojifchaaGreatDoor
namespace Am
open Go.RowKit Go.Proofs Go.ChangeShapes
/-- A unit that came in: its value, its row. -/
theorem ref_value {H : Type} {enc : TypeId × Value → H} {W : World} {held : Bool} {fuel : Nat} {v : Value} {x : DataW H × List MemPlace} {r : Reach} {base : Nat} (hok : Value.okWide Tryz.prog W r base 24 v) (h : DataW.trod enc Tryz.prog W 0 (fun _ => true) held fuel 24 v.cells.toList = some x) :
    ∃ (u : U) (a : Nat → Option (Nat × Nat)) (c : Option Nat) (z : Nat) (rows : List Obj) (ls : List (Option Loc)), ls.length = rows.length ∧ rows.length ≤ 1 ∧
      (∀ (k : Nat) o l, rows[k]? = some o → ls[k]? = some (some l) → l.b < W.heap.size ∧ o.live = false ∧ ∀ σ, OR σ W.heap.size W l o) ∧ (∀ o ∈ rows, o.live = false) ∧
      (∀ (σ : Sg) (id : Nat), (∀ (l : Loc), ls[0]? = some (some l) → σ id = some l) → VR σ (rV u (a id) c z) v) ∧
      (∀ (h : Heap) (id : Nat), (∀ o, rows[0]? = some o → h[id]? = some o) → R1 h (a id) z (u.list.map (.i .i64))) := by
  unfold Value.okWide at hok
  rw [Tryz.underlying24] at hok
  obtain ⟨ca, rfl, _, ts, hts, _, hall⟩ := hok
  have hts' : Tryz.prog.cellTypes Tryz.prog.depth 24 = some [3, 3, 3, 3, 3, 22, 4, 9] := by kernel_rfl
  obtain rfl := Option.some.inj (hts'.symm.trans hts)
  obtain ⟨kind, sq, n, ps, mr, c5, self, data, y, f', hcs, h5⟩ := ref_open h
  have hca : ca = #[.int .i64 kind, .int .i64 sq, .int .i64 n, .int .i64 ps, .int .i64 mr, c5, .bool self, .string data] := by
    have h1 : ca.toList = _ := hcs
    cases ca
    simpa using h1
  subst hca
  have ok5 : Cell.okWide Tryz.prog W r base 22 c5 := by
    obtain ⟨u, hu, hk⟩ := hall 5 c5 rfl
    obtain rfl : 22 = u := by simpa using hu
    exact hk
  have hd : VR (fun _ => none) (.s data.data.toList) (.string data) := by
    have := VR.s (σ := fun _ => none) data.data.toList
    rwa [string_eta] at this
  have hds : ∀ σ : Sg, VR σ (.s data.data.toList) (.string data) := fun σ => by
    have := VR.s (σ := σ) data.data.toList
    rwa [string_eta] at this
  rcases int_row Tryz.underlying22 Tryz.underlying3 (by kernel_rfl) h5 (fun v e => by injection e with e _; subst e; exact ok5) with e5 | ⟨b, off, len, cap, nn, zs, e5, hzl, _, hb, hOR, hVR⟩
  · injection e5 with e5 _
    subst e5
    refine ⟨⟨kind, sq, n, ps, mr, [], self, data.data.toList⟩, fun _ => none, some 0, 0, [], [], rfl, by simp, (fun k o l hk => by simp at hk), (fun o ho => by cases ho), fun σ id _ => ?_, fun h id _ => rfl⟩
    exact .g (.cons (.i _ _) (.cons (.i _ _) (.cons (.i _ _) (.cons (.i _ _) (.cons (.i _ _) (.cons (.sl0 0) (.cons (.b _) (.cons (hds σ) .nil))))))))
  · injection e5 with e5 _
    subst e5
    subst hzl
    refine ⟨⟨kind, sq, n, ps, mr, zs, self, data.data.toList⟩, fun id => some (id, 0), none, 1, [.cells (zs.map (.i .i64)) true none], [some ⟨b, off, nn⟩], rfl, by simp, fun k o l hk hl => ?_, (fun o ho => by simp at ho; subst ho; rfl), fun σ id hs => ?_, fun h id hh => R1_get (hh _ rfl)⟩
    · match k, hk, hl with
      | 0, hk, hl =>
        cases hk; cases hl
        exact ⟨hb, rfl, fun σ => hOR σ _⟩
    · exact .g (.cons (.i _ _) (.cons (.i _ _) (.cons (.i _ _) (.cons (.i _ _) (.cons (.i _ _) (.cons (hVR σ id (hs _ rfl)) (.cons (.b _) (.cons (hds σ) .nil))))))))
theorem back_walk {H : Type} {enc : TypeId × Value → H} {W : World} (hl : laidMetH Tryz.prog laidL W) (hsh : W.ShapedOpen Tryz.prog) {held : Bool} {fuel : Nat} {v : Value} {x : DataW H × List MemPlace} {r : Reach} {base : Nat} (hok : Value.okWide Tryz.prog W r base 24 v) (h : DataW.trod enc Tryz.prog W 0 (fun _ => true) held fuel 24 v.cells.toList = some x) :
    Calls Tryz.prog n_law19_TraceBack #[v] W fun e W' => e = .returned (.bool true) ∧ Below W.heap.size W W' := by
  obtain ⟨tp, m, te3, te4, b3, o3, b4, o4, hW⟩ := world_ok hl hsh
  obtain ⟨u, a, c, z, rows, ls, hlen, _, hr, hlive, hV, hR⟩ := ref_value hok h
  have hH := first_HR hW hlen hr hlive
  obtain ⟨v', h', ht, rfl⟩ := s_TraceBack u (H0 tp m te3 te4 rows) (a 7) c z (hR _ 7 (fun o ho => ho)) (H0_gl hW.tpow _ _ _ _)
  refine (calls_to (us := [v]) ht (S0_gl _ _ _ _ _) hH (.cons (hV _ 7 (fun l hl => by show (ls[0]?).join = some l; rw [hl]; rfl)) .nil)).mono ?_
  rintro e W' ⟨σ', w, rfl, hw, hHR, _⟩
  cases hw
  exact ⟨rfl, hHR.below⟩
end Am
end Go.Proofs.YtjjkjfdojifchaaGreatDoor
