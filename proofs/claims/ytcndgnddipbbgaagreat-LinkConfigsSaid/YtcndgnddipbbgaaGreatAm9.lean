/-
  THE ABSTRACT MACHINE, part 9: a step of a region whose order is drawn; the whole region.
  Conditions: none (lemmas over any program that mixes its orders).
-/
import Derived.Test.YtcndgnddipbbgaaGreatAm8
set_option linter.unusedVariables false
set_option linter.unusedSimpArgs false
namespace Go.Proofs.YtcndgnddipbbgaaGreat
namespace Am
open Go.RowKit

structure Hk (E : Env) (ops : List COp) (b : Nat → Nat → Bool) (frs : Nat → List V) (hs : Nat → Heap) (vs : Nat → V) : Prop where
  rd : ∀ k j, k < ops.length → isR (opAt ops k) = true → wants (frs k) (opAt ops k).gd = true → j ∈ chkOf ops b k → ∃ q, (opAt ops k).act = .op q ∧ opS q (frs k) (hs j) = some (vs k, hs j)
  al : ∀ k j, k < ops.length → isA (opAt ops k) = true → wants (frs k) (opAt ops k).gd = true → j ∈ achOf ops b k → (hs j)[(hs k).length]? = (hs (k + 1))[(hs k).length]?

theorem isR_act {o : COp} (h : isR o = true) : ∃ q, o.act = .op q ∧ q.kd = .read := by
  unfold isR COp.kd at h
  cases ha : o.act with
  | op q => rw [ha] at h; simp only at h; cases hq : q.kd <;> rw [hq] at h <;> first | exact ⟨q, rfl, hq⟩ | (simp at h; done)
  | callf f xs => rw [ha] at h; cases h
  | callv x xs => rw [ha] at h; cases h

theorem readAt_op {q : AOp} {o : COp} (ha : o.act = .op q) (hq : q.quiet = true) {fr : List V} {h : Heap} {v : V} (hr : readAt o fr h = some v) : opS q fr h = some (v, h) := by
  unfold readAt at hr
  rw [ha] at hr
  obtain ⟨⟨v', h'⟩, h1, h2⟩ := map1 hr
  have := opS_quiet hq h1
  subst this
  simp only at h2
  rw [h1, h2]

theorem firstW {ops : List COp} {c : Nat} : ∀ d, (∀ j, c ≤ j → j < c + d → isW (opAt ops j) = false) ∨ ∃ j, c ≤ j ∧ j < c + d ∧ isW (opAt ops j) = true ∧ ∀ i, c ≤ i → i < j → isW (opAt ops i) = false := by
  intro d
  induction d with
  | zero => exact .inl fun j a b => by omega
  | succ d ih =>
    rcases ih with h | ⟨j, h1, h2, h3, h4⟩
    · cases hw : isW (opAt ops (c + d)) with
      | true => exact .inr ⟨c + d, by omega, by omega, hw, fun i a b => h i a b⟩
      | false =>
        left
        intro j a b
        by_cases e : j = c + d
        · rw [e]; exact hw
        · exact h j a (by omega)
    · exact .inr ⟨j, h1, by omega, h3, h4⟩

section
variable {P : Program} {G : Nat → Option Nat} {E : Env}
variable {src : Array Oper} {l : List COp} {bs : Array Nat} {π : List Nat} {frs : Nat → List V} {hs : Nat → Heap} {vs : Nat → V} {σ0 σ : Sg} {B : Nat} {w0 w : World} {ds : List Deferred} {D D' : Nat → Bool} {a : Act} {k : Nat}

theorem trAct_op {op : Op} {q : AOp} (h : trAct P G op = some (.op q)) : trOp P G op = some q := by
  unfold trAct at h
  split at h
  · split at h
    · obtain ⟨z, _, e⟩ := map1 h; cases e
    · split at h
      · injection h with e; cases e
      · cases h
    · obtain ⟨z, hz, e⟩ := map1 h; injection e with e; rw [← e]; exact hz
    · cases h
  · obtain ⟨z, hz, e⟩ := map1 h; injection e with e; rw [← e]; exact hz

theorem isWA_W {o : COp} (h : isW o = true) : isWA o = true := by simp [isWA, h]
theorem isWA_A {o : COp} (h : isA o = true) : isWA o = true := by simp [isWA, h]

/-- All writers ahead of the heap that stands are done. -/
theorem Inv.doneW (DO : DOk src (permOps l π) bs π) (I : Inv (permOps l π) frs hs vs (bAt bs π) σ0 B w0 ds D σ a w) {j : Nat} (hj : j < cix (permOps l π) D (permOps l π).length) (hw : isW (opAt (permOps l π) j) = true) : D j = true := by
  have hl := DO.len
  rcases cix_at (ops := permOps l π) D (permOps l π).length with h | ⟨m, h1, h2, h3, h4⟩
  · omega
  · by_cases e : j = m
    · rw [e]; exact h3
    · exact I.closed j m h2 h3 (by omega) (DO.c3 j m (by omega) (by omega) hw h4)

/-- The heap that a writer or a maker finds, where none came later. -/
theorem Inv.heapAt (DO : DOk src (permOps l π) bs π) (T : Tr E (permOps l π) frs hs vs) (I : Inv (permOps l π) frs hs vs (bAt bs π) σ0 B w0 ds D σ a w) (hk : k < src.size) (hr : ∀ j, j < src.size → bAt bs π j k = true → D j = true) (hw : isWA (opAt (permOps l π) k) = true)
    (hc : cix (permOps l π) D (permOps l π).length ≤ k) : HR σ B w0 (hs k) w := by
  have hl := DO.len
  obtain ⟨os, h1⟩ := grow T (c := cix (permOps l π) D (permOps l π).length) (e := k) hc (by omega) (fun j h1 h2 => by
    cases hj : isW (opAt (permOps l π) j) with
    | false => rfl
    | true =>
      have h3 := cix_not D _ j h1 (by omega) (isWA_W hj)
      have h4 := hr j (by omega) (DO.c3 j k h2 hk hj hw)
      rw [h3] at h4; cases h4)
  rw [h1]
  exact I.heap.more os
theorem Inv.cixW (DO : DOk src (permOps l π) bs π) (I : Inv (permOps l π) frs hs vs (bAt bs π) σ0 B w0 ds D σ a w) (hk : k < src.size) (hD : D k = false) (hw : isW (opAt (permOps l π) k) = true) : cix (permOps l π) D (permOps l π).length ≤ k := by
  rcases Nat.lt_or_ge k (cix (permOps l π) D (permOps l π).length) with h | h
  · have := I.doneW DO h hw; rw [hD] at this; cases this
  · exact h

/-- A step, in whatever order. -/
theorem any_step (hE : EnvOk P G E) (hG : GlOk σ0 G) (ht : trOpers P G src src.toList = some l) (DO : DOk src (permOps l π) bs π) (T : Tr E (permOps l π) frs hs vs) (H : Hk E (permOps l π) (bAt bs π) frs hs vs)
    (I : Inv (permOps l π) frs hs vs (bAt bs π) σ0 B w0 ds D σ a w) (hk : k < src.size) (hD : D k = false) (hr : ∀ j, j < src.size → bAt bs π j k = true → D j = true)
    (hD' : ∀ j, D' j = (D j || decide (j = k))) {K : Act → World → Prop} {Q : Exit → Act → World → Prop}
    (hK : ∀ σ' a' w', Inv (permOps l π) frs hs vs (bAt bs π) σ0 B w0 ds D' σ' a' w' → K a' w') : wpOp P src Q (pAt π k) K a w := by
  have hl := DO.len
  obtain ⟨o, ho, h1, h2, h3⟩ := perm_get ht DO hk
  have hu := fun t (ht' : t ∈ (opAt (permOps l π) k).names) => I.used DO T hk hD hr ht'
  have hSR : ∀ t, t ∈ (opAt (permOps l π) k).uses → SR σ (frs k)[t]? a.tmps[t]? := fun t ht' => by rw [← hu t (use_name ht')]; exact I.slots t
  have hFR : FRo σ (frs k) a.tmps (opAt (permOps l π) k).act.opds := fun t ht' => (hSR t (use_opd ht')).getD
  have hgl := hG.mono I.ext.1
  have hw := wants_eq (fr := frs k) h2 (tmps := a.tmps) (fun t b e => hSR t (use_gd e))
  have hst := T.step k (by omega)
  have hlen := stepS_len hE.len hst
  have hcle := cix_le (ops := permOps l π) D (permOps l π).length
  have hno : ∀ {X : Prop}, isWA (opAt (permOps l π) k) = false → HR σ B w0 (hs (cix (permOps l π) D' (permOps l π).length)) w := by
    intro _ hn
    rw [cix_add_no (D := D) _ (fun j _ hj => by
      have : j ≠ k := by intro e; rw [e, hn] at hj; cases hj
      simp [hD', this])]
    exact I.heap
  have hdst := h3
  unfold wpOp
  rw [ho]
  simp only
  rw [hw]
  by_cases hwt : wants (frs k) (opAt (permOps l π) k).gd = true
  · rw [if_pos hwt]
    left
    unfold stepS at hst
    rw [if_pos hwt] at hst
    have hfin : ∀ σ' u w', Ext σ σ' (hs k).length (hs (k + 1)).length → VR σ' (vs k) u → HR σ' B w0 (hs (cix (permOps l π) D' (permOps l π).length)) w' → K (a.put o.dst u) w' := by
      intro σ' u w' e1 e2 e3
      rw [← hdst]
      exact hK σ' _ w' (I.step hE.len DO T hk hD hr hD' e1 e2 e3)
    cases hW : isW (opAt (permOps l π) k) with
    | true =>
      have hc := I.cixW DO hk hD hW
      refine act_step hE hgl (I.heapAt DO T hk hr (isWA_W hW) hc) h1 hFR hst (fun σ' u w' e1 e2 e3 => hfin σ' u w' e1 e2 ?_)
      rw [cix_new (isWA_W hW) hD' _ (by omega), Nat.max_eq_right (by omega)]
      exact e3
    | false =>
      cases hA : isA (opAt (permOps l π) k) with
      | true =>
        obtain ⟨q, hq, hkd⟩ := kd_alloc hA
        rw [hq] at hst
        obtain ⟨ob, mk, ha1, ha2, ha3⟩ := allocS_of hkd hst
        have hc := cix_new (isWA_A hA) hD' (permOps l π).length (by omega)
        have hid : (hs (k + 1))[(hs k).length]? = some ob := by rw [ha3]; simp
        have hHob : HR σ B w0 (hs (cix (permOps l π) D' (permOps l π).length)) w ∧ (hs (cix (permOps l π) D' (permOps l π).length))[(hs k).length]? = some ob := by
          rw [hc]
          rcases Nat.lt_or_ge k (cix (permOps l π) D (permOps l π).length) with hlt | hge
          · rw [Nat.max_eq_left (by omega)]
            refine ⟨I.heap, ?_⟩
            have hall : ∀ d, k + 1 + d ≤ cix (permOps l π) D (permOps l π).length → (hs (k + 1 + d))[(hs k).length]? = some ob := by
              intro d
              induction d with
              | zero => intro _; exact hid
              | succ d ih =>
                intro hd
                have ih := ih (by omega)
                cases hWd : isW (opAt (permOps l π) (k + 1 + d)) with
                | true =>
                  have hdone := I.doneW DO (show k + 1 + d < _ by omega) hWd
                  have hnb : bAt bs π k (k + 1 + d) = false := by
                    cases hb : bAt bs π k (k + 1 + d) with
                    | false => rfl
                    | true => have := I.closed k (k + 1 + d) (by omega) hdone (by omega) hb; rw [hD] at this; cases this
                  have := H.al k (k + 1 + d + 1) (by omega) hA hwt (by
                    unfold achOf
                    rw [List.mem_filterMap]
                    refine ⟨k + 1 + d, List.mem_range.2 (by omega), ?_⟩
                    have hkd : k < k + 1 + d := by omega
                    simp [hWd, hnb, hkd])
                  rw [show k + 1 + (d + 1) = k + 1 + d + 1 by omega, this]
                  exact hid
                | false =>
                  obtain ⟨os, hos⟩ := grow1 T (k := k + 1 + d) (by omega) hWd
                  rw [show k + 1 + (d + 1) = k + 1 + d + 1 by omega, hos]
                  exact get_more ih os
            have := hall (cix (permOps l π) D (permOps l π).length - (k + 1)) (by omega)
            rwa [show k + 1 + (cix (permOps l π) D (permOps l π).length - (k + 1)) = cix (permOps l π) D (permOps l π).length by omega] at this
          · rw [Nat.max_eq_right (by omega)]
            refine ⟨?_, hid⟩
            rw [ha3]
            exact (I.heapAt DO T hk hr (isWA_A hA) hge).more [ob]
        rw [hq] at hFR
        have htop : trOp P G o.op = some q := by
          rw [hq] at h1
          exact trAct_op h1
        have hnone : σ (hs k).length = none := I.fresh k (by omega) hD _ (Nat.le_refl _) (by rw [ha3]; simp)
        obtain ⟨l', u, w', r1, r2, r3⟩ := alloc_sound hgl hHob.1 htop hFR ha1 hHob.2 hnone
        have e1 : Ext σ (upd σ (hs k).length l') (hs k).length (hs (k + 1)).length := by
          have := ext_upd (l := l') hnone
          rw [ha3]
          simpa using this
        have := hfin _ u w' e1 (by rw [ha2]; exact r2) r3
        unfold Oper.wp
        rw [r1]
        exact this
      | false =>
        obtain ⟨q, hq, hqq⟩ := kd_quiet hA hW
        rw [hq] at hst hFR
        have htop : trOp P G o.op = some q := by rw [hq] at h1; exact trAct_op h1
        have e0 := opS_quiet hqq hst
        have hnW : ∀ j, isW (opAt (permOps l π) j) = true → j ≠ k := by intro j hj e; rw [e, hW] at hj; cases hj
        have hst' : opS q (frs k) (hs k) = some (vs k, hs k) := by have := hst; rw [e0] at this; exact this
        have hread : ∃ h', opS q (frs k) h' = some (vs k, h') ∧ HR σ B w0 h' w := by
          cases hkd : q.kd with
          | pure => exact ⟨_, opS_pure hkd hst' _, I.heap⟩
          | alloc => simp [AOp.quiet, hkd] at hqq
          | world => simp [AOp.quiet, hkd] at hqq
          | read =>
            have hR : isR (opAt (permOps l π) k) = true := by unfold isR COp.kd; rw [hq]; simp [hkd]
            have hchk : ∀ j, j < src.size → isW (opAt (permOps l π) j) = true → bAt bs π j k = false → bAt bs π k j = false → ∀ h', h' = hs (if j < k then j else j + 1) → opS q (frs k) h' = some (vs k, h') := by
              intro j hj hjw n1 n2 h' e
              obtain ⟨q', hq', hr'⟩ := H.rd k (if j < k then j else j + 1) (by omega) hR hwt (by
                unfold chkOf
                rw [List.mem_filterMap]
                refine ⟨j, List.mem_range.2 (by omega), ?_⟩
                simp [hjw, n1, n2, hnW j hjw])
              rw [hq] at hq'
              injection hq' with e'
              subst e'
              rw [e]
              exact hr'
            rcases Nat.lt_or_ge k (cix (permOps l π) D (permOps l π).length) with hlt | hge
            · refine ⟨_, ?_, I.heap⟩
              have hall : ∀ d, k + d ≤ cix (permOps l π) D (permOps l π).length → opS q (frs k) (hs (k + d)) = some (vs k, hs (k + d)) := by
                intro d
                induction d with
                | zero => intro _; exact hst'
                | succ d ih =>
                  intro hd
                  have ih := ih (by omega)
                  cases hWd : isW (opAt (permOps l π) (k + d)) with
                  | true =>
                    have hdone := I.doneW DO (show k + d < _ by omega) hWd
                    have hne := hnW _ hWd
                    refine hchk (k + d) (by omega) hWd (DO.c1 k (k + d) (by omega) (by omega)) ?_ _ ?_
                    · cases hb : bAt bs π k (k + d) with
                      | false => rfl
                      | true => have := I.closed k (k + d) (by omega) hdone (by omega) hb; rw [hD] at this; cases this
                    · rw [if_neg (by omega)]; rfl
                  | false =>
                    obtain ⟨os, hos⟩ := grow1 T (k := k + d) (by omega) hWd
                    rw [show k + (d + 1) = k + d + 1 by omega, hos]
                    exact opS_more hqq ih os
              have := hall (cix (permOps l π) D (permOps l π).length - k) (by omega)
              rwa [show k + (cix (permOps l π) D (permOps l π).length - k) = cix (permOps l π) D (permOps l π).length by omega] at this
            · rcases firstW (ops := permOps l π) (c := cix (permOps l π) D (permOps l π).length) (k - cix (permOps l π) D (permOps l π).length) with hn | ⟨j, j1, j2, j3, j4⟩
              · obtain ⟨os, hos⟩ := grow T (c := cix (permOps l π) D (permOps l π).length) (e := k) hge (by omega) (fun j a b => hn j a (by omega))
                refine ⟨hs k, hst', ?_⟩
                rw [hos]
                exact I.heap.more os
              · obtain ⟨os, hos⟩ := grow T (c := cix (permOps l π) D (permOps l π).length) (e := j) j1 (by omega) j4
                have hnd := cix_not D _ j j1 (by omega) (isWA_W j3)
                refine ⟨hs j, hchk j (by omega) j3 ?_ ?_ _ ?_, ?_⟩
                · cases hb : bAt bs π j k with
                  | false => rfl
                  | true => have := hr j (by omega) hb; rw [hnd] at this; cases this
                · exact DO.c1 j k (by omega) hk
                · rw [if_pos (by omega)]
                · rw [hos]; exact I.heap.more os
        obtain ⟨h', hh1, hh2⟩ := hread
        obtain ⟨_, u, r1, r2⟩ := quiet_sound hgl hh2 htop hqq hFR hh1
        have := hfin σ u w (Ext.refl _ _ _) r2 (hno (X := True) (by simp [isWA, hW, hA]))
        unfold Oper.wp
        rw [r1]
        exact this
  · rw [if_neg hwt]
    unfold stepS at hst
    rw [if_neg hwt] at hst
    obtain ⟨e1, e2⟩ := pair_inj hst
    rw [← hdst]
    refine hK σ _ w (I.step hE.len DO T hk hD hr hD' (Ext.refl _ _ _) (by rw [e1]; exact undef_VR) ?_)
    cases hWA : isWA (opAt (permOps l π) k) with
    | false => exact hno (X := True) hWA
    | true =>
      rw [cix_new hWA hD' _ (by omega)]
      rcases Nat.lt_or_ge k (cix (permOps l π) D (permOps l π).length) with hlt | hge
      · rw [Nat.max_eq_left (by omega)]; exact I.heap
      · rw [Nat.max_eq_right (by omega), e2]
        exact I.heapAt DO T hk hr hWA hge
end
end Am
end Go.Proofs.YtcndgnddipbbgaaGreat
