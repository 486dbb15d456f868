/-
  WHAT THE ORACLES PROMISE, THE LIBRARY'S FUNCTIONS KEEP, part 1: worlds; the builder's two.
  Conditions: none (lemmas over any program and any numbering).
-/
import Derived.Test.YtcndgnddipbbgaaGreatAm12
import Derived.Shelf.Strings.Builder1
import Derived.Sort.Grow
import Derived.Deep.Draws
set_option linter.unusedVariables false
set_option linter.unusedSimpArgs false
namespace Go.Proofs.YtcndgnddipbbgaaGreat
namespace Am
open Go.RowKit Go.Shelf Go.Proofs
section
variable {σ : Sg} {B : Nat} {w0 w w' : World} {h : Heap}
/-- A world in which nothing that was there is another. -/
theorem HR.grown (H : HR σ B w0 h w) (hb : Below w.heap.size w w') : HR σ B w0 h w' :=
  ⟨H.below.trans (hb.mono H.base), Nat.le_trans H.base hb.size, H.dom, fun i o l a b => (H.obj i o l a b).frame (hb.block _ (H.lt i l b)), fun i l b => Nat.lt_of_lt_of_le (H.lt i l b) hb.size, H.inj⟩
theorem below_grow (w : World) (k : Nat) (os : Array Go.Obj) : Below w.heap.size w (Go.Sort.grow (w.drewN k) os) :=
  ⟨rfl, rfl, rfl, by simp [Go.Sort.grow, World.drewN], fun j hj => by
    show (w.heap ++ os)[j]? = _
    rw [Array.getElem?_append_left hj]⟩
theorem HR.fresh (H : HR σ B w0 h w) : σ h.length = none := by
  cases hq : σ h.length with
  | none => rfl
  | some x => have := H.dom _ _ hq; omega
/-- A dead object may stand for whatever block. -/
theorem HR.dead (H : HR σ B w0 h w) {l : Loc} (hl : l.b < w.heap.size) : HR (upd σ h.length l) B w0 (h ++ [.dead]) w := by
  have hn := H.fresh
  have HM := H.more [.dead]
  refine ⟨H.below, H.base, fun i l' hs => ?_, fun i o l' hi hs => ?_, fun i l' hs => ?_, fun i j oi oj li lj hij hi hj a b hsi hsj => ?_⟩
  · by_cases e : i = h.length
    · subst e; simp
    · rw [upd_other e] at hs; exact HM.dom i l' hs
  · by_cases e : i = h.length
    · subst e
      have : (h ++ [Obj.dead])[h.length]? = some .dead := by simp
      rw [this] at hi
      injection hi with hi
      subst hi
      trivial
    · rw [upd_other e] at hs; exact (HM.obj i o l' hi hs).mono (upd_le _ hn)
  · by_cases e : i = h.length
    · subst e; rw [upd_at] at hs; injection hs with hs; subst hs; exact hl
    · rw [upd_other e] at hs; exact HM.lt i l' hs
  · have hd : (h ++ [Obj.dead])[h.length]? = some .dead := by simp
    have ei : i ≠ h.length := fun e => by subst e; rw [hd] at hi; injection hi with hi; subst hi; simp [Obj.live] at a
    have ej : j ≠ h.length := fun e => by subst e; rw [hd] at hj; injection hj with hj; subst hj; simp [Obj.there] at b
    rw [upd_other ei] at hsi
    rw [upd_other ej] at hsj
    exact HM.inj i j oi oj li lj hij hi hj a b hsi hsj
/-- What lies at a read-only object. -/
theorem HR.cell (H : HR σ B w0 h w) {id : Nat} {vs : List V} {ro : Bool} {ty : Option Nat} (hid : h[id]? = some (.cells vs ro ty)) {l : Loc} (hl : σ id = some l) {j : Nat} {v : V} (hv : vs[j]? = some v) : ∃ u, w.cell? ⟨l.b, l.o + j, none⟩ = some u ∧ VR σ v u := by
  obtain ⟨_, _, _, h4⟩ := H.obj id _ l hid hl
  exact (h4 j v hv).2
theorem freeze_get (w : World) (a : Addr) (n k : Nat) (hk : k ≠ a.block) : (w.freeze a n).heap[k]? = w.heap[k]? := by
  unfold World.freeze
  split
  · rfl
  · simp only [Array.getElem?_modify]
    rw [if_neg (by omega)]
theorem freeze_size (w : World) (a : Addr) (n : Nat) : (w.freeze a n).heap.size = w.heap.size := by
  unfold World.freeze
  split <;> simp
end
section
variable {P : Program} {ρ : Ren}
set_option maxHeartbeats 1000000 in
set_option maxRecDepth 100000 in
/-- String of a builder that holds bytes: they are frozen, nothing else. -/
theorem string_exact (L : Lays.n169 P ρ) (X : Builder.Extra P ρ) (b g cells cap : Nat) (l : List UInt8) (w : World) (h0 : l ≠ []) (c1 : w.cell? ⟨b, 1, none⟩ = some (.slice (some ⟨g, 0, none⟩) l.length cap)) (hcap : cap ≠ 0) (hsh : w.shape? g = some (ρ.t 5, cells)) (hn : l.length ≤ cells) (h63 : l.length ≤ 9223372036854775807)
    (hcell : ∀ j x, l[j]? = some x → w.cell? ⟨g, j, none⟩ = some (.int .u8 x.toNat)) :
    Calls P (ρ.f 169) #[.pointer (some ⟨b, 0, none⟩)] w fun e w' => e = .returned (.string ⟨l.toArray⟩) ∧ w' = w.drew.freeze ⟨g, 0, none⟩ l.length := by
  have c2 : w.drew.cell? ⟨b, 1, none⟩ = some (.slice (some ⟨g, 0, none⟩) l.length cap) := c1
  have hSD : (Builtin.unsafeSliceData_ #[(ρ.t 37)] (ρ.t 127) #[.slice (some ⟨g, 0, none⟩) l.length cap]).run P w.drew = .ok (.pointer (some ⟨g, 0, none⟩)) w.drew :=
    Lib.run_unsafeSliceData_row _ _ _ _ _ _ hcap
  have hUS : (Builtin.unsafeString_ #[(ρ.t 127), (ρ.t 3)] (ρ.t 9) #[.pointer (some ⟨g, 0, none⟩), .int .i64 l.length]).run P w.drew = .ok (.string ⟨l.toArray⟩) (w.drew.freeze ⟨g, 0, none⟩ l.length) := by
    refine Lib.run_unsafeString_row w.drew (ρ.t 127) (ρ.t 3) (ρ.t 9) (ρ.t 5) L.t127 X.cellsByte g cells hsh l h0 hn h63 ?_
    intro j x hx
    rw [add0, Nat.zero_add]
    exact hcell j x hx
  have mixed := L.mixed
  have t72 := L.t72; have a72 := L.a72; have z72 := L.z72; have v72 := L.v72; have u72 := run_underlying L.t72
  have t70 := L.t70; have a70 := L.a70; have z70 := L.z70; have v70 := L.v70; have u70 := run_underlying L.t70
  have t37 := L.t37; have a37 := L.a37; have z37 := L.z37; have v37 := L.v37; have u37 := run_underlying L.t37
  have t127 := L.t127; have a127 := L.a127; have z127 := L.z127; have v127 := L.v127; have u127 := run_underlying L.t127
  have t3 := L.t3; have a3 := L.a3; have z3 := L.z3; have v3 := L.v3; have u3 := run_underlying L.t3
  have t9 := L.t9; have a9 := L.a9; have z9 := L.z9; have v9 := L.v9; have u9 := run_underlying L.t9
  have t5 := X.t5; have a5 := X.a5; have z5 := X.z5; have v5 := X.v5; have u5 := run_underlying X.t5
  go_enter L.f169, Body.n169_ntmps ρ
  go_wp2
  go_region_o
  all_goals (go_wp2; go_ret; exact ⟨rfl, rfl⟩)
set_option maxHeartbeats 2000000 in
set_option maxRecDepth 100000 in
/-- .. of one that holds none. -/
theorem string_none (L : Lays.n169 P ρ) (X : Builder.Extra P ρ) (b : Nat) (w : World) (c1 : w.cell? ⟨b, 1, none⟩ = some (.slice none 0 0)) :
    Calls P (ρ.f 169) #[.pointer (some ⟨b, 0, none⟩)] w fun e w' => e = .returned (.string ⟨#[]⟩) ∧ w' = w.drew := by
  have hUS := Any.unsafeString_none L X
  have c2 : w.drew.cell? ⟨b, 1, none⟩ = some (.slice none 0 0) := c1
  have hSD : (Builtin.unsafeSliceData_ #[(ρ.t 37)] (ρ.t 127) #[.slice none 0 0]).run P w.drew = .ok (.pointer none) w.drew := rfl
  have mixed := L.mixed
  have t72 := L.t72; have a72 := L.a72; have z72 := L.z72; have v72 := L.v72; have u72 := run_underlying L.t72
  have t70 := L.t70; have a70 := L.a70; have z70 := L.z70; have v70 := L.v70; have u70 := run_underlying L.t70
  have t37 := L.t37; have a37 := L.a37; have z37 := L.z37; have v37 := L.v37; have u37 := run_underlying L.t37
  have t127 := L.t127; have a127 := L.a127; have z127 := L.z127; have v127 := L.v127; have u127 := run_underlying L.t127
  have t3 := L.t3; have a3 := L.a3; have z3 := L.z3; have v3 := L.v3; have u3 := run_underlying L.t3
  have t9 := L.t9; have a9 := L.a9; have z9 := L.z9; have v9 := L.v9; have u9 := run_underlying L.t9
  have t5 := X.t5; have a5 := X.a5; have z5 := X.z5; have v5 := X.v5; have u5 := run_underlying X.t5
  go_enter L.f169, Body.n169_ntmps ρ
  go_wp2
  go_region_o
  all_goals (go_wp2; go_ret; exact ⟨rfl, rfl⟩)
end
end Am
end Go.Proofs.YtcndgnddipbbgaaGreat
