/-
  THE LAWS OF TEXTS, WALKED: whatever came in, the call returns true, and nothing that was there is another.
  Conditions: none (what is asked of the world stands in each statement).
-/
import Derived.Test.YtjjkjfdojifchaaDoorLa4
import Derived.Test.YtjjkjfdojifchaaDoorSp22
import Derived.Test.YtjjkjfdojifchaaDoorSp23
import Derived.ChangeMaps5
set_option linter.unusedVariables false
set_option maxRecDepth 100000
set_option linter.unusedSimpArgs false
namespace Go.Proofs.YtjjkjfdojifchaaDoor
namespace Am
open Go.RowKit Go.Proofs Go.ChangeShapes Go.ChangeMaps
theorem VR_str {σ : Sg} (s : ByteArray) : VR σ (.s s.data.toList) (.string s) := by
  have := VR.s (σ := σ) s.data.toList
  rwa [string_eta] at this
theorem reads_walk {H : Type} {enc : TypeId × Value → H} {W : World} (hl : laidMetH Tryd.prog laidL W) (hsh : W.ShapedOpen Tryd.prog) {r : Reach} {base : Nat} {v : Value} {d : DataW H} {ps : List MemPlace} (hok : Value.okWide Tryd.prog W r base 9 v) (h : DataW.Trod enc Tryd.prog W 0 (fun _ => true) true 9 v d ps) :
    Calls Tryd.prog n_law19_TraceReads #[v] W fun e W' => e = .returned (.bool true) ∧ Below W.heap.size W W' := by
  obtain ⟨tp, m, te3, te4, b3, o3, b4, o4, hW⟩ := world_ok hl hsh
  obtain ⟨s, rfl, _⟩ := open_string Tryd.underlying9 hok h
  have hH := first_HR hW (rows := []) (ls := []) rfl (fun k o l hk => by simp at hk) (fun o ho => by cases ho)
  obtain ⟨v', h', ht, rfl⟩ := s_TraceReads s.data.toList (H0 tp m te3 te4 []) (H0_gl hW.tpow _ _ _ _)
  refine (calls_to (us := [.string s]) ht (S0_gl _ _ _ _ _) hH (.cons (VR_str s) .nil)).mono ?_
  rintro e W' ⟨σ', w, rfl, hw, hHR, _⟩
  cases hw
  exact ⟨rfl, hHR.below⟩
theorem kinds_walk {H : Type} {enc : TypeId × Value → H} {W : World} (hl : laidMetH Tryd.prog laidL W) (hsh : W.ShapedOpen Tryd.prog) {held : Bool} {fuel : Nat} {v : Value} {x : DataW H × List MemPlace} {r : Reach} {base : Nat} (hok : Value.okWide Tryd.prog W r base 37 v) (h : DataW.trod enc Tryd.prog W 0 (fun _ => true) held fuel 37 v.cells.toList = some x) :
    Calls Tryd.prog n_law19_TraceKinds #[v] W fun e W' => e = .returned (.bool true) ∧ Below W.heap.size W W' := by
  obtain ⟨tp, m, te3, te4, b3, o3, b4, o4, hW⟩ := world_ok hl hsh
  obtain ⟨u, a, c, z, rows, ls, hlen, _, hr, hlive, hV, hR⟩ := ref_value hok h
  have hH := first_HR hW hlen hr hlive
  obtain ⟨v', h', ht, rfl⟩ := s_TraceKinds u (H0 tp m te3 te4 rows) (a 7) c z (hR _ 7 (fun o ho => ho)) (H0_gl hW.tpow _ _ _ _)
  refine (calls_to (us := [v]) ht (S0_gl _ _ _ _ _) hH (.cons (hV _ 7 (fun l hl => by show (ls[0]?).join = some l; rw [hl]; rfl)) .nil)).mono ?_
  rintro e W' ⟨σ', w, rfl, hw, hHR, _⟩
  cases hw
  exact ⟨rfl, hHR.below⟩
/-- Two arguments' rows, one behind the other. -/
theorem rows_app {W : World} {rows rows' : List Obj} {ls ls' : List (Option Loc)} (hlen : ls.length = rows.length)
    (hr : ∀ (k : Nat) o l, rows[k]? = some o → ls[k]? = some (some l) → l.b < W.heap.size ∧ o.live = false ∧ ∀ σ, OR σ W.heap.size W l o) (hr' : ∀ (k : Nat) o l, rows'[k]? = some o → ls'[k]? = some (some l) → l.b < W.heap.size ∧ o.live = false ∧ ∀ σ, OR σ W.heap.size W l o) :
    ∀ (k : Nat) o l, (rows ++ rows')[k]? = some o → (ls ++ ls')[k]? = some (some l) → l.b < W.heap.size ∧ o.live = false ∧ ∀ σ, OR σ W.heap.size W l o := by
  intro k o l h1 h2
  by_cases hk : k < rows.length
  · rw [List.getElem?_append_left hk] at h1
    rw [List.getElem?_append_left (by omega)] at h2
    exact hr k o l h1 h2
  · rw [List.getElem?_append_right (by omega)] at h1
    rw [List.getElem?_append_right (by omega), hlen] at h2
    exact hr' _ o l h1 h2
theorem unlike_walk {H : Type} {enc : TypeId × Value → H} {W : World} (hl : laidMetH Tryd.prog laidL W) (hsh : W.ShapedOpen Tryd.prog) {held held' : Bool} {fuel fuel' : Nat} {v w : Value} {x y : DataW H × List MemPlace} {r : Reach} {base : Nat} (hok : Value.okWide Tryd.prog W r base 37 v) (h : DataW.trod enc Tryd.prog W 0 (fun _ => true) held fuel 37 v.cells.toList = some x)
    (hok' : Value.okWide Tryd.prog W r base 37 w) (h' : DataW.trod enc Tryd.prog W 0 (fun _ => true) held' fuel' 37 w.cells.toList = some y) :
    Calls Tryd.prog n_law19_TraceUnlike #[v, w] W fun e W' => e = .returned (.bool true) ∧ Below W.heap.size W W' := by
  obtain ⟨tp, m, te3, te4, b3, o3, b4, o4, hW⟩ := world_ok hl hsh
  obtain ⟨u, a, c, z, rows, ls, hlen, _, hr, hlive, hV, hR⟩ := ref_value hok h
  obtain ⟨u', a', c', z', rows', ls', hlen', _, hr', hlive', hV', hR'⟩ := ref_value hok' h'
  have hH := first_HR hW (rows := rows ++ rows') (ls := ls ++ ls') (by simp [hlen, hlen']) (rows_app hlen hr hr') (fun o ho => by exact (List.mem_append.1 ho).elim (hlive o) (hlive' o))
  obtain ⟨v', h', ht, rfl⟩ := s_TraceUnlike u u' (H0 tp m te3 te4 (rows ++ rows')) (a 7) (a' (7 + rows.length)) c c' z z'
    (hR _ 7 (fun o ho => by show (rows ++ rows')[0]? = some o; rw [List.getElem?_append_left (List.getElem?_eq_some_iff.1 ho).1]; exact ho))
    (hR' _ (7 + rows.length) (fun o ho => by rw [Nat.add_comm]; show (rows ++ rows')[rows.length]? = some o; rw [List.getElem?_append_right (Nat.le_refl _), Nat.sub_self]; exact ho)) (H0_gl hW.tpow _ _ _ _)
  refine (calls_to (us := [v, w]) ht (S0_gl _ _ _ _ _) hH (.cons (hV _ 7 (fun l hl => by show ((ls ++ ls')[0]?).join = some l; rw [List.getElem?_append_left (List.getElem?_eq_some_iff.1 hl).1, hl]; rfl))
    (.cons (hV' _ (7 + rows.length) (fun l hl => by rw [Nat.add_comm]; show ((ls ++ ls')[rows.length]?).join = some l; rw [← hlen, List.getElem?_append_right (Nat.le_refl _), Nat.sub_self, hl]; rfl)) .nil))).mono ?_
  rintro e W' ⟨σ', w, rfl, hw, hHR, _⟩
  cases hw
  exact ⟨rfl, hHR.below⟩
theorem kinds_walk2 {H : Type} {enc : TypeId × Value → H} {W : World} (hl : laidMetH Tryd.prog laidL W) (hsh : W.ShapedOpen Tryd.prog) {r : Reach} {base : Nat} {v : Value} {d : DataW H} {ps : List MemPlace} (hok : Value.okWide Tryd.prog W r base 37 v) (h : DataW.Trod enc Tryd.prog W 0 (fun _ => true) true 37 v d ps) :
    Calls Tryd.prog n_law19_TraceKinds #[v] W fun e W' => e = .returned (.bool true) ∧ Below W.heap.size W W' := by
  obtain ⟨fuel, hf⟩ := h
  exact kinds_walk hl hsh hok hf
theorem unlike_walk2 {H : Type} {enc : TypeId × Value → H} {W : World} (hl : laidMetH Tryd.prog laidL W) (hsh : W.ShapedOpen Tryd.prog) {r : Reach} {base : Nat} {v : Value} {d : DataW H} {ps : List MemPlace} (hok : Value.okWide Tryd.prog W r base 37 v) (h : DataW.Trod enc Tryd.prog W 0 (fun _ => true) true 37 v d ps)
    {v' : Value} {d' : DataW H} {ps' : List MemPlace} (hok' : Value.okWide Tryd.prog W r base 37 v') (h' : DataW.Trod enc Tryd.prog W 0 (fun _ => true) true 37 v' d' ps') :
    Calls Tryd.prog n_law19_TraceUnlike #[v, v'] W fun e W' => e = .returned (.bool true) ∧ Below W.heap.size W W' := by
  obtain ⟨fuel, hf⟩ := h
  obtain ⟨fuel', hf'⟩ := h'
  exact unlike_walk hl hsh hok hf hok' hf'
end Am
end Go.Proofs.YtjjkjfdojifchaaDoor
