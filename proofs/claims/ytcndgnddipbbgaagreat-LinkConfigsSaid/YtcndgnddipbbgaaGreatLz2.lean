/-
  LinkConfigs, CALLED: what comes in becomes the machine's first heap, what the machine answers the program answers.
  Conditions: none (what is asked of the world stands in the statement).
-/
import Derived.Test.YtcndgnddipbbgaaGreatLz1
set_option linter.unusedVariables false
set_option maxRecDepth 100000
set_option linter.unusedSimpArgs false
namespace Go.Proofs.YtcndgnddipbbgaaGreat
namespace Am
open Go.RowKit Go.Proofs Go.ChangeShapes Go.ChangeMaps
theorem awake_fr (rows : List Obj) (hl : rows.length ≤ 2) (o : Obj) : ∃ h', To M n_law18_awake [] (rows ++ [o]) (.b true) h' ∧ Fr (rows ++ [o]) [] h' := by
  obtain ⟨h', ht, hk⟩ := s_awake (rows ++ [o]) (by simp) (by simp; omega)
  refine ⟨h', ht, ?_, fun i hi _ => hk i hi⟩
  have h1 := hk rows.length (by simp)
  rw [List.getElem?_append_right (Nat.le_refl _), Nat.sub_self] at h1
  have := (List.getElem?_eq_some_iff.1 h1).1
  simp
  omega
theorem cfg_walk {H : Type} {enc : TypeId × Value → H} {W : World} {r : Reach} {base : Nat} {v : Value} {d : DataW H} {ps : List MemPlace} (hok : Value.okWide Tryz.prog W r base 26 v) (h : DataW.Trod enc Tryz.prog W 0 (fun _ => true) true 26 v d ps) :
    Calls Tryz.prog n_law18_LinkConfigs #[v] W fun e W' => e = .returned (.bool true) ∧ Below W.heap.size W W' := by
  obtain ⟨fuel, h⟩ := h
  unfold Value.okWide at hok
  rw [Tryz.underlying26] at hok
  obtain ⟨ca, rfl, _, ts, hts, _, hall⟩ := hok
  have hts' : Tryz.prog.cellTypes Tryz.prog.depth 26 = some [3, 3, 3, 3, 3, 3, 22, 3, 3, 3, 3, 3, 3, 22, 3] := by kernel_rfl
  obtain rfl := Option.some.inj (hts'.symm.trans hts)
  obtain ⟨a0, a1, a2, a3, a4, a5, sa, b0, b1, b2, b3, b4, b5, sb, room, y, z, fa, fb, hcs, ra, rb⟩ := cfg_open h
  have hca : ca = #[.int .i64 a0, .int .i64 a1, .int .i64 a2, .int .i64 a3, .int .i64 a4, .int .i64 a5, sa, .int .i64 b0, .int .i64 b1, .int .i64 b2, .int .i64 b3, .int .i64 b4, .int .i64 b5, sb, .int .i64 room] := by
    have h1 : ca.toList = _ := hcs
    cases ca
    simpa using h1
  subst hca
  have oka : Cell.okWide Tryz.prog W r base 22 sa := by
    obtain ⟨u, hu, hk⟩ := hall 6 sa rfl
    obtain rfl : 22 = u := by simpa using hu
    exact hk
  have okb : Cell.okWide Tryz.prog W r base 22 sb := by
    obtain ⟨u, hu, hk⟩ := hall 13 sb rfl
    obtain rfl : 22 = u := by simpa using hu
    exact hk
  obtain ⟨za, ia, pa, qa, rows, ls, hlen, h1, hr, hlive, hV, hT⟩ := ints_value oka ra
  obtain ⟨zb, ib, pb, qb, rows', ls', hlen', h1', hr', hlive', hV', hT'⟩ := ints_value okb rb
  have hH := rows_HR (rows := rows ++ rows') (ls := ls ++ ls') (by simp [hlen, hlen']) (rows_app hlen hr hr') (fun o ho => (List.mem_append.1 ho).elim (hlive o) (hlive' o))
  obtain ⟨A, ⟨eA0, eA1, eA2, eA3, eA4, eA5⟩, tA⟩ := hT (rows ++ rows') 0 (fun o ho => by rw [List.getElem?_append_left (List.getElem?_eq_some_iff.1 ho).1]; exact ho) ⟨a0, a1, a2, a3, a4, a5, 0, 0, 0, 0, 0⟩
  obtain ⟨B, ⟨eB0, eB1, eB2, eB3, eB4, eB5⟩, tB⟩ := hT' (rows ++ rows') rows.length (fun o ho => by rw [List.getElem?_append_right (Nat.le_refl _), Nat.sub_self]; exact ho) ⟨b0, b1, b2, b3, b4, b5, 0, 0, 0, 0, 0⟩
  obtain ⟨h', ht, _⟩ := s_LinkConfigs (room := room) (fun o => awake_fr (rows ++ rows') (by simp; omega) o) tA tB
  have hvA : ∀ σ : Sg, (∀ (l : Loc), ls[0]? = some (some l) → σ 0 = some l) → VR σ (.sl (ia 0) za.length pa qa) sa := fun σ hs => hV σ 0 hs
  unfold Cf.rcs at ht
  rw [eA0, eA1, eA2, eA3, eA4, eA5, eB0, eB1, eB2, eB3, eB4, eB5] at ht
  have hva := hV (fun i => ((ls ++ ls')[i]?).join) 0 (fun l hl => by show ((ls ++ ls')[0]?).join = some l; rw [List.getElem?_append_left (List.getElem?_eq_some_iff.1 hl).1, hl]; rfl)
  have hvb := hV' (fun i => ((ls ++ ls')[i]?).join) rows.length (fun l hl => by show ((ls ++ ls')[rows.length]?).join = some l; rw [← hlen, List.getElem?_append_right (Nat.le_refl _), Nat.sub_self, hl]; rfl)
  refine (calls_to (us := [_]) ht (fun g id e => by cases e) hH (.cons (.g (.cons (.i _ _) (.cons (.i _ _) (.cons (.i _ _) (.cons (.i _ _) (.cons (.i _ _) (.cons (.i _ _) (.cons hva (.cons (.i _ _) (.cons (.i _ _) (.cons (.i _ _) (.cons (.i _ _) (.cons (.i _ _) (.cons (.i _ _) (.cons hvb (.cons (.i _ _) .nil)))))))))))))))) .nil)).mono ?_
  rintro e W' ⟨σ', w, rfl, hw, hHR, _⟩
  cases hw
  exact ⟨rfl, hHR.below⟩
end Am
end Go.Proofs.YtcndgnddipbbgaaGreat
