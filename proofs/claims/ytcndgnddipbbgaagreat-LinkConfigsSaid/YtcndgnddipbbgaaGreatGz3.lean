/-
  WHAT THE ORACLES PROMISE, THE LIBRARY'S FUNCTIONS KEEP (the link's laws); what the machine answers, the program answers.
  Conditions: none.
-/
import Derived.Test.YtcndgnddipbbgaaGreatGw1
import Derived.Test.YtcndgnddipbbgaaGreatOrcL
import Derived.Test.YtcndgnddipbbgaaGreatShelf
import Derived.Test.YtcndgnddipbbgaaGreatTies
import Derived.KernelRfl
set_option linter.unusedVariables false
set_option linter.unusedSimpArgs false
namespace Go.Proofs.YtcndgnddipbbgaaGreat
namespace Am
open Go.RowKit Go.Shelf Go.Proofs
section
variable {σ : Sg} {B : Nat} {w0 w w' : World} {h : Heap}
theorem VRs.one {v : V} {us : List Value} (h : VRs σ [v] us) : ∃ u, us = [u] ∧ VR σ v u := by
  cases h with
  | cons h hs => cases hs; exact ⟨_, rfl, h⟩
theorem VRs.two {v v' : V} {us : List Value} (h : VRs σ [v, v'] us) : ∃ u u', us = [u, u'] ∧ VR σ v u ∧ VR σ v' u' := by
  cases h with
  | cons h hs => obtain ⟨u', rfl, h'⟩ := hs.one; exact ⟨_, _, rfl, h, h'⟩
theorem good_Check : Good Tryz.prog G n_strings_Builder_copyCheck oCheck := by
  intro args h v h' hs
  have hbody : ∃ fn, Tryz.prog.funcs[n_strings_Builder_copyCheck]? = some fn ∧ fn.body.isSome = true ∧ (fn.name == "runtime.NumGoroutine") = false := ⟨_, Tryz.func145, by kernel_rfl, by kernel_rfl⟩
  have hL : Lays.n240 Tryz.prog Tryz.lays165_ren := { Tryz.lays165 with }
  have hX : Builder.X72 Tryz.prog Tryz.lays165_ren := Tryz.Builder_Extra_165.toX72
  unfold oCheck at hs
  split at hs
  · rename_i id
    split at hs
    · rename_i q sv t hid
      split at hs
      · rename_i ht
        subst ht
        split at hs
        · obtain ⟨rfl, rfl⟩ := pair_inj hs
          refine ⟨hbody, by simp, fun σ B w0 w us hG H hv => ?_⟩
          obtain ⟨u, rfl, hu⟩ := hv.one
          cases hu with
          | p hl =>
            rename_i l
            obtain ⟨⟨T, hsh, hT⟩, hle, hfz, hc⟩ := H.obj id _ l hid hl
            obtain ⟨ho, hty, _⟩ := hT tyB rfl
            obtain ⟨hT1, hn1⟩ := hty (Nat.le_of_ble_eq_true rfl)
            obtain ⟨hB, hfr⟩ := hfz rfl
            obtain ⟨_, u0, hu0, hv0⟩ := hc 0 _ rfl
            cases hv0
            rw [ho] at hu0
            subst hT1
            rw [hn1] at hsh
            have hset : Am.setCells h id 0 [.p (some (id, 0))] = some (h.set id (.cells [.p (some (id, 0)), sv] false (some tyB))) := by
              simp [Am.setCells, hid, splice]
            obtain ⟨_, _, HR', _⟩ := H.setCells hset hl (vs := [.pointer (some ⟨l.b, 0, none⟩)]) (.cons (by have := VR.p (σ := σ) (off := 0) hl; rw [ho] at this; exact this) .nil) rfl
            rw [ho] at HR' ⊢
            refine (Any.Builder_copyCheck_fresh hL hX l.b w hu0 hsh (by have := hfr 0 (by rw [hn1]; exact Nat.zero_lt_succ _); exact this)).mono ?_
            rintro e w' ⟨rfl, rfl⟩
            refine ⟨σ, _, rfl, undef_VR, ?_, by rw [List.length_set]; exact Ext.refl _ _ _⟩
            exact HR'
        · rename_i q'
          split at hs
          · rename_i hq
            subst hq
            obtain ⟨rfl, rfl⟩ := pair_inj hs
            refine ⟨hbody, Nat.le_refl _, fun σ B w0 w us hG H hv => ?_⟩
            obtain ⟨u, rfl, hu⟩ := hv.one
            cases hu with
            | p hl =>
              rename_i l
              obtain ⟨⟨T, hsh, hT⟩, hle, hfz, hc⟩ := H.obj id _ l hid hl
              obtain ⟨ho, _, _⟩ := hT tyB rfl
              obtain ⟨_, u0, hu0, hv0⟩ := hc 0 _ rfl
              cases hv0 with
              | p hl2 =>
                rw [hl] at hl2
                injection hl2 with hl2
                subst hl2
                rw [ho] at hu0 ⊢
                refine (Any.Builder_copyCheck_used hL hX l.b w hu0).mono ?_
                rintro e w' ⟨rfl, rfl⟩
                exact ⟨σ, _, rfl, undef_VR, H, Ext.refl _ _ _⟩
          · cases hs
      · cases hs
    · cases hs
  · cases hs
theorem bytesOf_get : ∀ (vs : List V) (l : List UInt8), bytesOf vs = some l → vs.length = l.length ∧ ∀ (j : Nat) x, l[j]? = some x → ∃ n : Int, vs[j]? = some (.i .u8 n) ∧ x = UInt8.ofNat n.toNat := by
  intro vs
  induction vs with
  | nil => intro l h; simp [bytesOf] at h; subst h; exact ⟨rfl, fun j x hx => by simp at hx⟩
  | cons v vs ih =>
    intro l h
    unfold bytesOf at h
    split at h
    · rename_i hh; cases hh
    · rename_i n r hh
      injection hh with h1 h2
      subst h1; subst h2
      obtain ⟨l', h3, h4⟩ := map1 h
      subst h4
      obtain ⟨q1, q2⟩ := ih l' h3
      refine ⟨by simp [q1], fun j x hx => ?_⟩
      cases j with
      | zero => simp at hx; exact ⟨n, rfl, hx.symm⟩
      | succ j => simpa using q2 j x (by simpa using hx)
    · cases h
theorem good_String : Good Tryz.prog G n_strings_Builder_String oString := by
  intro args h v h' hs
  have hbody : ∃ fn, Tryz.prog.funcs[n_strings_Builder_String]? = some fn ∧ fn.body.isSome = true ∧ (fn.name == "runtime.NumGoroutine") = false := ⟨_, Tryz.func121, by kernel_rfl, by kernel_rfl⟩
  unfold oString at hs
  split at hs
  · rename_i id
    split at hs
    · rename_i p a n c z t hid
      split at hs
      · rename_i ht
        subst ht
        split at hs
        · split at hs
          · rename_i hn
            subst hn
            obtain ⟨rfl, rfl⟩ := pair_inj hs
            refine ⟨hbody, Nat.le_refl _, fun σ B w0 w us hG H hv => ?_⟩
            obtain ⟨u, rfl, hu⟩ := hv.one
            cases hu with
            | p hl =>
              rename_i l
              obtain ⟨⟨T, hsh, hT⟩, _, _, hc⟩ := H.obj id _ l hid hl
              obtain ⟨ho, _, _⟩ := hT tyB rfl
              obtain ⟨_, u1, hu1, hv1⟩ := hc 1 _ rfl
              cases hv1
              rw [ho] at hu1 ⊢
              refine (string_none Tryz.lays169 Tryz.Builder_Extra_169 l.b w hu1).mono ?_
              rintro e w' ⟨rfl, rfl⟩
              exact ⟨σ, _, rfl, .s [], H.drew, Ext.refl _ _ _⟩
          · cases hs
        · rename_i bid off
          split at hs
          · rename_i vs e hbid
            split at hs
            · rename_i hc0
              obtain ⟨rfl, rfl, rfl, hne, hpos, hle, hbig⟩ := hc0
              split at hs
              · rename_i l hl
                split at hs
                rotate_left
                · cases hs
                rename_i hsame
                have hsame := sameL_eq hsame
                obtain ⟨rfl, rfl⟩ := pair_inj hs
                refine ⟨hbody, by simp, fun σ B w0 w us hG H hv => ?_⟩
                obtain ⟨u, rfl, hu⟩ := hv.one
                obtain ⟨hln, hlg⟩ := bytesOf_get _ _ hl
                rw [List.length_take, Nat.min_eq_left hle] at hln
                cases hu with
                | p hlo =>
                  rename_i lo
                  obtain ⟨⟨T, hsh, hT⟩, _, _, hc⟩ := H.obj id _ lo hid hlo
                  obtain ⟨ho, _, _⟩ := hT tyB rfl
                  obtain ⟨_, u1, hu1, hv1⟩ := hc 1 _ rfl
                  cases hv1 with
                  | sl hlb hob hnb hcb hccb =>
                    rename_i L o' cp
                    obtain ⟨⟨T2, hsh2, hT2⟩, hle2, hfz2, hcell2⟩ := H.obj bid _ L hbid hlb
                    obtain ⟨ho2, _, hty2⟩ := hT2 tyU8 rfl
                    have hT2e : T2 = Tryz.lays169_ren.t 5 := by
                      have h1 := hty2 (Nat.le_of_ble_eq_true rfl)
                      have h2 : Tryz.lays169_ren.t 5 + 1000000 = tyU8 := rfl
                      exact Nat.add_right_cancel (h1.trans h2.symm)
                    subst hT2e
                    have ho' := hob (.inl hpos)
                    rw [ho2] at ho'
                    subst ho'
                    rw [ho] at hu1 ⊢
                    subst hln
                    have hl0 : l ≠ [] := fun e => by subst e; simp at hpos
                    have hcells : ∀ j x, l[j]? = some x → w.cell? ⟨L.b, j, none⟩ = some (.int .u8 x.toNat) := by
                      intro j x hx
                      have hjl := (List.getElem?_eq_some_iff.1 hx).1
                      have hm : vs[j]? = some (.i .u8 x.toNat) := by
                        rw [← List.getElem?_take_of_lt hjl, hsame]
                        simp [bytesV, hx]
                      obtain ⟨_, u2, hu2, hv2⟩ := hcell2 j _ hm
                      cases hv2
                      rw [ho2, Nat.zero_add] at hu2
                      exact hu2
                    refine (string_exact Tryz.lays169 Tryz.Builder_Extra_169 lo.b L.b L.n cp l w hl0 hu1 (by omega) hsh2 (by omega) (by omega) hcells).mono ?_
                    rintro e w' ⟨rfl, rfl⟩
                    obtain ⟨hB2, _⟩ := hfz2 rfl
                    refine ⟨σ, _, rfl, .s _, ?_, by rw [List.length_set]; exact Ext.refl _ _ _⟩
                    exact H.drew.write (o' := .dead) hbid hlb rfl hB2 (freeze_size _ _ _) (fun k hk => freeze_get _ _ _ _ hk) (Lib.below_freeze H.drew.below hB2 _) trivial
              · cases hs
            · cases hs
          · cases hs
      · cases hs
    · cases hs
  · cases hs
end
theorem rep_one (b : UInt8) : ∀ n, Lib.repeatL [b] n = List.replicate n b := by
  intro n
  induction n with
  | zero => rfl
  | succ n ih => rw [Lib.repeatL, ih]; rfl
theorem good_Repeat : Good Tryz.prog G n_strings_Repeat oRepeat := by
  intro args h v h' hs
  unfold oRepeat at hs
  split at hs
  · rename_i b n
    split at hs
    · rename_i hc
      obtain ⟨rfl, rfl⟩ := pair_inj hs
      refine ⟨⟨_, Tryz.func117, by kernel_rfl, by kernel_rfl⟩, Nat.le_refl _, fun σ B w0 w us hG H hv => ?_⟩
      obtain ⟨u, u', rfl, hu, hu'⟩ := hv.two
      cases hu
      cases hu'
      obtain ⟨k, rfl⟩ := Int.eq_ofNat_of_zero_le hc.1
      have hk : k ≤ 8192 := by omega
      have hs1 : (⟨[b].toArray⟩ : ByteArray).size = 1 := rfl
      refine (Tryz.strings_Repeat ⟨[b].toArray⟩ k w (by omega) (by rw [hs1]; omega)).mono ?_
      rintro e w' ⟨rfl, hb⟩
      refine ⟨σ, _, rfl, ?_, H.grown hb, Ext.refl _ _ _⟩
      rw [show (⟨[b].toArray⟩ : ByteArray).data.toList = [b] from rfl, rep_one]
      exact .s _
    · cases hs
  · cases hs
theorem good_O : ∀ f g, O f = some g → Good Tryz.prog G f g := by
  intro f g h
  unfold O at h
  split at h
  · rename_i e; subst e; injection h with h; subst h; exact good_Check
  split at h
  · rename_i e; subst e; injection h with h; subst h; exact good_String
  split at h
  · rename_i e; subst e; injection h with h; subst h; exact good_Repeat
  · cases h
theorem calls_to {f : Nat} {args : List V} {h h' : Heap} {v : V} {us : List Value} {σ : Sg} {B : Nat} {w0 w : World} (ht : To M f args h v h') (hG : GlOk σ G) (H : HR σ B w0 h w) (hv : VRs σ args us) :
    Calls Tryz.prog f us.toArray w fun e w' => ∃ σ' u, e = .returned u ∧ VR σ' v u ∧ HR σ' B w0 h' w' ∧ Ext σ σ' h.length h'.length := by
  obtain ⟨n, hn⟩ := ht
  obtain ⟨_, _, hc⟩ := call_sound (P := Tryz.prog) (G := G) (by kernel_rfl) good_O tF n f args h v h' hn
  exact hc σ B w0 w us hG H hv
/-- The first heap: all of it only to be read. -/
theorem HR.first {σ : Sg} {h : Heap} {w : World} (hd : ∀ i l, σ i = some l → i < h.length ∧ l.b < w.heap.size) (hl : ∀ (i : Nat) o, h[i]? = some o → o.live = false) (ho : ∀ (i : Nat) o l, h[i]? = some o → σ i = some l → OR σ w.heap.size w l o) : HR σ w.heap.size w h w :=
  ⟨Below.refl _ _, Nat.le_refl _, fun i l e => (hd i l e).1, ho, fun i l e => (hd i l e).2, fun i j oi oj li lj _ hi _ hli _ _ _ => by rw [hl i oi hi] at hli; cases hli⟩
theorem OR_ro {σ : Sg} {B : Nat} {w : World} {g : Nat} {cs : Array Value} {T : TypeId} {fz : Nat × Nat} (hg : w.heap[g]? = some (.cells cs T fz)) {vs : List V} (hlen : vs.length = cs.size) (hv : ∀ (j : Nat) v, vs[j]? = some v → v.one = true ∧ ∃ u, cs[j]? = some u ∧ VR σ v u) {ty : Option Nat} (hty : ty = none ∨ (ty = some T ∧ T < 1000000)) :
    OR σ B w ⟨g, 0, cs.size⟩ (.cells vs true ty) := by
  refine ⟨⟨T, by simp [World.shape?, hg], fun t e => ⟨rfl, ?_⟩⟩, by simp [hlen], (fun c => by cases c), fun j v hj => ?_⟩
  · rcases hty with rfl | ⟨rfl, hT⟩
    · cases e
    · injection e with e
      subst e
      exact ⟨fun _ => ⟨rfl, hlen.symm⟩, fun c => absurd hT (Nat.not_lt.2 c)⟩
  · obtain ⟨h1, u, h2, h3⟩ := hv j v hj
    refine ⟨h1, u, ?_, h3⟩
    simp [World.cell?, hg, h2]
end Am
end Go.Proofs.YtcndgnddipbbgaaGreat
