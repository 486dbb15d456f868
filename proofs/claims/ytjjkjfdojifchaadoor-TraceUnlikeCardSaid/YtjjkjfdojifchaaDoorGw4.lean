/-
  WHAT THE MACHINE ANSWERS, THE PROGRAM ANSWERS.
  Conditions: none.
-/
import Derived.Test.YtjjkjfdojifchaaDoorGw3
import Derived.Test.YtjjkjfdojifchaaDoorTies
set_option linter.unusedVariables false
set_option linter.unusedSimpArgs false
namespace Go.Proofs.YtjjkjfdojifchaaDoor
namespace Am
open Go.RowKit
theorem good_O : ∀ f g, O f = some g → Good Tryd.prog G f g := by
  intro f g h
  unfold O at h
  split at h
  · rename_i e; subst e; injection h with h; subst h; exact good_Itoa
  split at h
  · rename_i e; subst e; injection h with h; subst h; exact good_Atoi
  split at h
  · rename_i e; subst e; injection h with h; subst h; exact good_Split
  split at h
  · rename_i e; subst e; injection h with h; subst h; exact good_Join
  split at h
  · rename_i e; subst e; injection h with h; subst h; exact good_IndexByte
  split at h
  · rename_i e; subst e; injection h with h; subst h; exact good_Check
  split at h
  · rename_i e; subst e; injection h with h; subst h; exact good_String
  · cases h
theorem calls_to {f : Nat} {args : List V} {h h' : Heap} {v : V} {us : List Value} {σ : Sg} {B : Nat} {w0 w : World} (ht : To M f args h v h') (hG : GlOk σ G) (H : HR σ B w0 h w) (hv : VRs σ args us) :
    Calls Tryd.prog f us.toArray w fun e w' => ∃ σ' u, e = .returned u ∧ VR σ' v u ∧ HR σ' B w0 h' w' ∧ Ext σ σ' h.length h'.length := by
  obtain ⟨n, hn⟩ := ht
  obtain ⟨_, _, hc⟩ := call_sound (P := Tryd.prog) (G := G) (by kernel_rfl) good_O tF n f args h v h' hn
  exact hc σ B w0 w us hG H hv
/-- The first heap: all of it only to be read. -/
theorem HR.first {σ : Sg} {h : Heap} {w : World} (hd : ∀ i l, σ i = some l → i < h.length ∧ l.b < w.heap.size) (hl : ∀ (i : Nat) o, h[i]? = some o → o.live = false) (ho : ∀ (i : Nat) o l, h[i]? = some o → σ i = some l → OR σ w.heap.size w l o) : HR σ w.heap.size w h w :=
  ⟨Below.refl _ _, Nat.le_refl _, fun i l e => (hd i l e).1, ho, fun i l e => (hd i l e).2, fun i j oi oj li lj _ hi _ hli _ _ _ => by rw [hl i oi hi] at hli; cases hli⟩
theorem OR_ro {σ : Sg} {B : Nat} {w : World} {g : Nat} {cs : Array Value} {T : TypeId} {fz : Nat × Nat} (hg : w.heap[g]? = some (.cells cs T fz)) {vs : List V} (hlen : vs.length = cs.size) (hv : ∀ (j : Nat) v, vs[j]? = some v → v.one = true ∧ ∃ u, cs[j]? = some u ∧ VR σ v u) {ty : Option Nat} (hty : ty = none ∨ (ty = some T ∧ T < 1000000)) :
    OR σ B w ⟨g, 0, cs.size⟩ (.cells vs true ty) := by
  refine ⟨⟨T, by simp [World.shape?, hg], fun t e => ⟨rfl, ?_⟩⟩, by simp [hlen], (fun c => by cases c), fun j v hj => ?_⟩
  · rcases hty with rfl | ⟨rfl, hT⟩
    · cases e
    · injection e with e
      subst e
      exact ⟨fun _ => ⟨rfl, hlen.symm⟩, fun c => absurd hT (Nat.not_lt.2 c)⟩
  · obtain ⟨h1, u, h2, h3⟩ := hv j v hj
    refine ⟨h1, u, ?_, h3⟩
    simp [World.cell?, hg, h2]
end Am
end Go.Proofs.YtjjkjfdojifchaaDoor
