/-
  THE LAW'S OWN RUN AT ITS HEAD (awake): it asks for nothing of its inputs, so the kernel walks it.
  Conditions: none.
-/
import Derived.Test.YtcndgnddipbbgaaGreatOrcT
import Derived.KernelRfl
set_option linter.unusedVariables false
set_option maxRecDepth 100000
namespace Go.Proofs.YtcndgnddipbbgaaGreat
namespace Am
noncomputable def ht1 (a : Obj) : HT := HT.nil.push a
noncomputable def ht2 (a b : Obj) : HT := (ht1 a).push b
noncomputable def ht3 (a b c : Obj) : HT := (ht2 a b).push c
theorem awake1 : (fun a => (callT sk OT F 3000 n_law18_awake [] (ht1 a)).map fun q => (q.1, q.2.get 0)) = fun a => some (.b true, some a) := by kernel_rfl
theorem awake2 : (fun a b => (callT sk OT F 3000 n_law18_awake [] (ht2 a b)).map fun q => (q.1, q.2.get 0, q.2.get 1)) = fun a b => some (.b true, some a, some b) := by kernel_rfl
theorem awake3 : (fun a b c => (callT sk OT F 3000 n_law18_awake [] (ht3 a b c)).map fun q => (q.1, q.2.get 0, q.2.get 1, q.2.get 2)) = fun a b c => some (.b true, some a, some b, some c) := by kernel_rfl
/-- awake: from few objects. -/
theorem s_awake (h : Heap) (h1 : 1 ≤ h.length) (h3 : h.length ≤ 3) : ∃ h', To M n_law18_awake [] h (.b true) h' ∧ ∀ i, i < h.length → h'[i]? = h[i]? := by
  match h, h1, h3 with
  | [a], _, _ =>
    obtain ⟨h', ht', t, r, e⟩ := To_tree (h := [a]) (ht := ht1 a) (p := fun ht => ht.get 0) 3000 (RH.nil.push a) (congrFun awake1 a)
    exact ⟨h', t, fun i hi => by
      obtain rfl : i = 0 := by simp at hi; omega
      rw [← r.get, e]; rfl⟩
  | [a, b], _, _ =>
    obtain ⟨h', ht', t, r, e⟩ := To_tree (h := [a, b]) (ht := ht2 a b) (p := fun ht => (ht.get 0, ht.get 1)) 3000 ((RH.nil.push a).push b) (congrFun (congrFun awake2 a) b)
    injection e with e0 e1
    exact ⟨h', t, fun i hi => by
      have : i = 0 ∨ i = 1 := by simp at hi; omega
      rcases this with rfl | rfl
      · rw [← r.get, e0]; rfl
      · rw [← r.get, e1]; rfl⟩
  | [a, b, c], _, _ =>
    obtain ⟨h', ht', t, r, e⟩ := To_tree (h := [a, b, c]) (ht := ht3 a b c) (p := fun ht => (ht.get 0, ht.get 1, ht.get 2)) 3000 (((RH.nil.push a).push b).push c) (congrFun (congrFun (congrFun awake3 a) b) c)
    injection e with e0 e1
    injection e1 with e1 e2
    exact ⟨h', t, fun i hi => by
      have : i = 0 ∨ i = 1 ∨ i = 2 := by simp at hi; omega
      rcases this with rfl | rfl | rfl
      · rw [← r.get, e0]; rfl
      · rw [← r.get, e1]; rfl
      · rw [← r.get, e2]; rfl⟩
end Am
end Go.Proofs.YtcndgnddipbbgaaGreat
