/-
  THE TABLE OF FUNCTIONS IS THE PROGRAM; the numbers of which all is known that the laws look at.
  Conditions: none.
-/
import Derived.Test.YthdkpflfkjdhmaaDoorCase
namespace Go.Proofs.YthdkpflfkjdhmaaDoor
namespace Am
open Go.RowKit
theorem tF : ∀ f c, F f = some c → (Tryd.prog.funcs[f]?).bind (trF Tryd.prog G) = some c := by
  intro f c h
  unfold F at h
  split at h
  · exact t3.trans h
  · exact t4.trans h
  · exact t5.trans h
  · exact t6.trans h
  · exact t7.trans h
  · exact t8.trans h
  · exact t9.trans h
  · exact t10.trans h
  · exact t11.trans h
  · exact t12.trans h
  · exact t13.trans h
  · exact t14.trans h
  · exact t15.trans h
  · exact t16.trans h
  · exact t17.trans h
  · exact t18.trans h
  · exact t19.trans h
  · exact t20.trans h
  · exact t21.trans h
  · exact t22.trans h
  · exact t23.trans h
  · exact t24.trans h
  · exact t25.trans h
  · exact t26.trans h
  · exact t27.trans h
  · exact t28.trans h
  · exact t29.trans h
  · exact t30.trans h
  · exact t31.trans h
  · exact t32.trans h
  · exact t33.trans h
  · exact t34.trans h
  · exact t35.trans h
  · exact t36.trans h
  · exact t37.trans h
  · exact t38.trans h
  · exact t39.trans h
  · exact t40.trans h
  · exact t41.trans h
  · exact t42.trans h
  · exact t43.trans h
  · exact t44.trans h
  · exact t45.trans h
  · exact t46.trans h
  · exact t47.trans h
  · exact t48.trans h
  · exact t49.trans h
  · exact t51.trans h
  · exact t53.trans h
  · exact t54.trans h
  · exact t55.trans h
  · exact t56.trans h
  · exact t57.trans h
  · exact t58.trans h
  · exact t59.trans h
  · exact t60.trans h
  · exact t61.trans h
  · exact t62.trans h
  · exact t67.trans h
  · exact t68.trans h
  · exact t69.trans h
  · exact t70.trans h
  · exact t71.trans h
  · exact t74.trans h
  · cases h

theorem wrapSmall : ∀ r : Fin 256, IntKind.i64.wrap (r.1 : Int) = (r.1 : Int) := of_decide_eq_true (by kernel_rfl)
theorem remSmall : ∀ r : Fin 256, ((r.1 : Int)).tmod 3 = ((r.1 % 3 : Nat) : Int) := of_decide_eq_true (by kernel_rfl)

theorem band_ex (m : Nat) (hm : (BitVec.ofInt 64 (m : Int)).toNat = m) (h2 : m < 256) (n : Int) : ∃ r : Nat, r ≤ m ∧ (Z.band m r).holds n := by
  have hle : (BitVec.ofInt 64 n &&& BitVec.ofInt 64 (m : Int)).toNat ≤ m := by
    rw [BitVec.toNat_and, hm]
    exact Nat.and_le_right
  refine ⟨(BitVec.ofInt 64 n &&& BitVec.ofInt 64 (m : Int)).toNat, hle, ?_⟩
  show some (V.i .i64 (IntKind.i64.wrap ((BitVec.ofInt 64 n &&& BitVec.ofInt 64 (m : Int)).toNat : Int))) = _
  rw [wrapSmall ⟨_, Nat.lt_of_le_of_lt hle h2⟩]
theorem brem_ex (n : Int) : ∃ r : Nat, r < 3 ∧ (Z.brem 255 3 r).holds n := by
  obtain ⟨q, h1, h2⟩ := band_ex 255 (by decide) (by decide) n
  refine ⟨q % 3, Nat.mod_lt _ (by decide), (q : Int), h2, ?_⟩
  show (if (3 : Int) = 0 then none else some (V.i .i64 ((q : Int).tmod 3))) = _
  rw [if_neg (by decide), remSmall ⟨q, by omega⟩]

theorem hr0 (w : World) : HR (fun _ => none) w.heap.size w [] w :=
  ⟨Below.refl _ _, Nat.le_refl _, fun _ _ h => (by cases h), fun _ _ _ _ h => (by cases h), fun _ _ h => (by cases h), fun _ _ _ _ _ _ _ _ _ _ _ h => (by cases h)⟩

/-- What the machine answers the program answers. -/
theorem calls_true {f : Nat} {args : List V} {us : List Value} {w : World} (h : isTrue (callT F 300 f args HT.nil) = true) (hv : VRs (fun _ => none) args us) :
    Calls Tryd.prog f us.toArray w fun e w' => e = .returned (.bool true) ∧ Below w.heap.size w w' := by
  unfold isTrue at h
  split at h
  · rename_i ht hc
    obtain ⟨h', h1, _⟩ := callT_ok F 300 f args HT.nil [] RH.nil _ _ hc
    obtain ⟨_, _, h2⟩ := call_sound (P := Tryd.prog) (G := G) (by kernel_rfl) (fun f g e => (by cases e)) tF 300 f args [] _ _ h1
    refine (h2 (fun _ => none) w.heap.size w w us (fun g id e => (by cases e)) (hr0 w) hv).mono ?_
    rintro e w' ⟨σ', u, rfl, hu, hH, _⟩
    cases hu
    exact ⟨rfl, hH.below⟩
  · cases h
end Am
end Go.Proofs.YthdkpflfkjdhmaaDoor
