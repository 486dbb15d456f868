/-
  THE ABSTRACT MACHINE, part 10: a region whose order is drawn, all of it; a body; a call.
  Conditions: none (lemmas over any program that mixes its orders).
-/
import Derived.Test.YtcndgnddipbbgaaGreatAm9
import Derived.LoopN
set_option linter.unusedVariables false
set_option linter.unusedSimpArgs false
namespace Go.Proofs.YtcndgnddipbbgaaGreat
namespace Am
open Go.RowKit

section
variable {P : Program} {G : Nat → Option Nat} {E : Env}
variable {src : Array Oper} {l : List COp} {bs : Array Nat} {π : List Nat} {frs : Nat → List V} {hs : Nat → Heap} {vs : Nat → V} {σ0 σ : Sg} {B : Nat} {w0 w : World} {ds : List Deferred} {D : Nat → Bool} {a : Act} {h : Heap} {fr : List V}

theorem ready_mem {ops : Array Oper} {listed : Array Bool} {i : Nat} (hi : i ∈ Region.ready .any ops listed) : ∃ o, ops[i]? = some o ∧ listed.getD i true = false ∧ ∀ e ∈ o.after, Region.binds .any e = true → listed.getD e.on false = true := by
  unfold Region.ready at hi
  rw [List.mem_filter] at hi
  obtain ⟨h1, h2⟩ := hi
  rw [List.mem_range] at h1
  simp only [Bool.and_eq_true, Array.getElem?_eq_getElem h1, Option.map_some, Option.getD_some] at h2
  refine ⟨ops[i], Array.getElem?_eq_getElem h1, by simpa using h2.1, fun e he hb => ?_⟩
  have h3 := h2.2
  rw [Array.all_eq_true'] at h3
  have := h3 e he
  simpa [hb] using this

theorem ready_nil {ops : Array Oper} {listed : Array Bool} (hsz : listed.size = ops.size) (hedge : ∀ (i : Nat) (o : Oper), ops[i]? = some o → ∀ e ∈ o.after, Region.binds .any e = true → e.on < i)
    (hn : Region.ready .any ops listed = []) : ∀ i, i < ops.size → listed.getD i false = true := by
  intro i
  induction i using Nat.strongRecOn with
  | _ i ih =>
    intro hi
    cases hl : listed.getD i false with
    | true => rfl
    | false =>
      have hm : i ∈ Region.ready .any ops listed := by
        unfold Region.ready
        rw [List.mem_filter]
        refine ⟨List.mem_range.2 hi, ?_⟩
        have h1 : listed.getD i true = false := by
          rw [Array.getD_eq_getD_getElem?, Array.getElem?_eq_getElem (by omega)] at hl ⊢
          simpa using hl
        rw [h1]
        simp only [Bool.not_false, Bool.true_and, Array.getElem?_eq_getElem hi, Option.map_some, Option.getD_some]
        rw [Array.all_eq_true']
        intro e he
        cases hb : Region.binds .any e with
        | false => simp
        | true =>
          have := hedge i _ (Array.getElem?_eq_getElem hi) e he hb
          simp [ih e.on this (by omega)]
      rw [hn] at hm
      cases hm

theorem any_go (hE : EnvOk P G E) (hG : GlOk σ0 G) (ht : trOpers P G src src.toList = some l) (DO : DOk src (permOps l π) bs π) (T : Tr E (permOps l π) frs hs vs) (H : Hk E (permOps l π) (bAt bs π) frs hs vs)
    {Q : Exit → Act → World → Prop} (hq : ∀ σ a w D, Inv (permOps l π) frs hs vs (bAt bs π) σ0 B w0 ds D σ a w → (∀ j, j < src.size → D j = true) → Q .normal a w) :
    ∀ (fuel : Nat) (L : List Nat) (listed : Array Bool) (D : Nat → Bool) (σ : Sg) (a : Act) (w : World), L.length = fuel → listed.size = src.size → (∀ i, i < src.size → listed.getD i false = false → i ∈ L) → (∀ k, k < src.size → D k = listed.getD (pAt π k) false) → (∀ k, src.size ≤ k → D k = false) →
      Inv (permOps l π) frs hs vs (bAt bs π) σ0 B w0 ds D σ a w → wpAny P .any src Q fuel listed a w := by
  intro fuel
  induction fuel with
  | zero =>
    intro L listed D σ a w hL hsz hin hD hD2 I
    have hnil : L = [] := List.length_eq_zero_iff.1 hL
    subst hnil
    have hall : ∀ i, i < src.size → listed.getD i false = true := fun i hi => by
      cases hc : listed.getD i false with
      | true => rfl
      | false => have := hin i hi hc; cases this
    refine ⟨?_, hq σ a w D I fun j hj => by rw [hD j hj]; exact hall _ (DO.lt j hj)⟩
    rw [List.eq_nil_iff_forall_not_mem]
    intro i hi
    obtain ⟨o, ho, h1, _⟩ := ready_mem hi
    have hi' : i < src.size := (Array.getElem?_eq_some_iff.1 ho).1
    have := hall i hi'
    rw [Array.getD_eq_getD_getElem?, Array.getElem?_eq_getElem (by omega)] at this h1
    simp at this h1
    rw [this] at h1
    cases h1
  | succ fuel ih =>
    intro L listed D σ a w hL hsz hin hD hD2 I
    refine ⟨fun hr => hq σ a w D I fun j hj => by rw [hD j hj]; exact ready_nil hsz DO.edge hr _ (DO.lt j hj), fun i hi => ?_⟩
    obtain ⟨o, ho, h1, h2⟩ := ready_mem hi
    have hi' : i < src.size := (Array.getElem?_eq_some_iff.1 ho).1
    have h1' : listed.getD i false = false := by
      rw [Array.getD_eq_getD_getElem?, Array.getElem?_eq_getElem (by omega)] at h1 ⊢
      simpa using h1
    obtain ⟨k, hk, rfl⟩ := DO.sur i hi'
    have hDk : D k = false := by rw [hD k hk]; exact h1'
    refine any_step hE hG ht DO T H I hk hDk (fun j hj hb => ?_) (D' := fun j => D j || decide (j = k)) (fun j => rfl) (fun σ' a' w' I' => ?_)
    · obtain ⟨o', ho', e, he, hb', hc⟩ := DO.bef _ _ (DO.lt j hj) hi' hb
      rw [ho] at ho'
      injection ho' with ho'
      subst ho'
      have h3 := h2 e he hb'
      rcases hc with hc | hc
      · rw [hD j hj, ← hc]; exact h3
      · have hlt := DO.edge _ _ ho e he hb'
        obtain ⟨m, hm, hme⟩ := DO.sur e.on (by omega)
        have hDm : D m = true := by rw [hD m hm, hme]; exact h3
        refine I.closed j m (by have := DO.len; omega) hDm (by have := DO.len; omega) ?_
        unfold bAt
        rw [hme]
        exact hc
    · refine ih (L.erase (pAt π k)) _ _ σ' a' w' ?_ (by simp [hsz]) (fun i hi2 hl => ?_) (fun j hj => ?_) (fun j hj => ?_) I'
      · rw [List.length_erase_of_mem (hin _ hi' h1'), hL]; rfl
      · have hne : i ≠ pAt π k := by
          intro e
          subst e
          rw [Array.getD_eq_getD_getElem?, Array.getElem?_setIfInBounds_self_of_lt (by omega)] at hl
          simp at hl
        refine (List.mem_erase_of_ne hne).2 (hin i hi2 ?_)
        rw [Array.getD_eq_getD_getElem?, Array.getElem?_setIfInBounds_ne (Ne.symm hne), ← Array.getD_eq_getD_getElem?] at hl
        exact hl
      · by_cases e : j = k
        · subst e
          rw [Array.getD_eq_getD_getElem?, Array.getElem?_setIfInBounds_self_of_lt (by omega)]
          simp
        · have hne : pAt π j ≠ pAt π k := by
            rcases Nat.lt_or_gt_of_ne e with h | h
            · exact DO.inj j k h hk
            · exact fun c => DO.inj k j h hj c.symm
          rw [Array.getD_eq_getD_getElem?, Array.getElem?_setIfInBounds_ne (Ne.symm hne), ← Array.getD_eq_getD_getElem?, ← hD j hj]
          simp [e]
      · have : j ≠ k := by omega
        simp [hD2 j hj, this]

theorem mem_chks {ops : List COp} {b : Nat → Nat → Bool} {k j : Nat} (hk : k < ops.length) (hr : isR (opAt ops k) = true) (hj : j ∈ chkOf ops b k) : (k, chkOf ops b k) ∈ chksOf ops b := by
  unfold chksOf
  rw [List.mem_filterMap]
  refine ⟨k, List.mem_range.2 hk, ?_⟩
  have : (chkOf ops b k).isEmpty = false := by cases h : chkOf ops b k with | nil => rw [h] at hj; cases hj | cons => rfl
  simp [hr, this]
theorem mem_achs {ops : List COp} {b : Nat → Nat → Bool} {k j : Nat} (hk : k < ops.length) (hr : isA (opAt ops k) = true) (hj : j ∈ achOf ops b k) : (k, achOf ops b k) ∈ achsOf ops b := by
  unfold achsOf
  rw [List.mem_filterMap]
  refine ⟨k, List.mem_range.2 hk, ?_⟩
  have : (achOf ops b k).isEmpty = false := by cases h : achOf ops b k with | nil => rw [h] at hj; cases hj | cons => rfl
  simp [hr, this]
theorem opAt_get {ops : List COp} {k : Nat} (hk : k < ops.length) : ops[k]? = some (opAt ops k) := by
  simp [opAt, List.getD, List.getElem?_eq_getElem hk]
theorem chkOf_le {ops : List COp} {b : Nat → Nat → Bool} {k j : Nat} (hj : j ∈ chkOf ops b k) : j ≤ ops.length := by
  unfold chkOf at hj
  rw [List.mem_filterMap] at hj
  obtain ⟨m, h1, h2⟩ := hj
  rw [List.mem_range] at h1
  split at h2
  · injection h2 with h2; split at h2 <;> omega
  · cases h2
theorem achOf_le {ops : List COp} {b : Nat → Nat → Bool} {k j : Nat} (hj : j ∈ achOf ops b k) : j ≤ ops.length := by
  unfold achOf at hj
  rw [List.mem_filterMap] at hj
  obtain ⟨m, h1, h2⟩ := hj
  rw [List.mem_range] at h1
  split at h2
  · injection h2 with h2; omega
  · cases h2

theorem hk_of {ops : List COp} {b : Nat → Nat → Bool} {tr : List (List V × Heap)} (T : Tr E ops frs hs vs) (htr : ∀ k, k ≤ ops.length → tr[k]? = some (frs k, hs k)) (h1 : (chksOf ops b).all (chkOne ops tr) = true) (h2 : (achsOf ops b).all (achOne ops tr) = true) : Hk E ops b frs hs vs := by
  refine ⟨fun k j hk hr hw hj => ?_, fun k j hk hr hw hj => ?_⟩
  · have := List.all_eq_true.1 h1 _ (mem_chks hk hr hj)
    unfold chkOne at this
    simp only [opAt_get hk, htr k (by omega), hw, Bool.not_true, Bool.false_or] at this
    have := List.all_eq_true.1 this _ hj
    simp only [htr j (chkOf_le hj)] at this
    obtain ⟨h3, v, hv⟩ := sameO_eq this
    obtain ⟨q, hq, hkd⟩ := isR_act hr
    have hst := T.step k hk
    unfold stepS at hst
    rw [if_pos hw, hq] at hst
    have e0 := opS_quiet (by simp [AOp.quiet, hkd]) hst
    have : readAt (opAt ops k) (frs k) (hs k) = some (vs k) := by
      unfold readAt
      rw [hq]
      have hst' : opS q (frs k) (hs k) = some (vs k, hs (k + 1)) := hst
      simp [hst']
    exact ⟨q, hq, readAt_op hq (by simp [AOp.quiet, hkd]) (by rw [← h3]; exact this)⟩
  · have := List.all_eq_true.1 h2 _ (mem_achs hk hr hj)
    unfold achOne at this
    simp only [opAt_get hk, htr k (by omega), htr (k + 1) (by omega), hw, Bool.not_true, Bool.false_or] at this
    have := List.all_eq_true.1 this _ hj
    simp only [htr j (achOf_le hj)] at this
    exact (sameObj_eq this).symm

theorem trace_of {ops : List COp} : ∀ {fr : List V} {h : Heap} {r : List V × Heap}, runOps E ops fr h = some r → ∃ tr, trace E ops fr h = some tr := by
  induction ops with
  | nil => intro fr h r _; exact ⟨_, rfl⟩
  | cons o ops ih =>
    intro fr h r hr
    simp only [runOps] at hr
    split at hr
    · rename_i v h' hst
      obtain ⟨tr, ht⟩ := ih hr
      exact ⟨_, by simp [trace, hst, ht]; rfl⟩
    · cases hr

theorem cix_false : ∀ {ops : List COp} {D : Nat → Bool} (m : Nat), (∀ j, D j = false) → cix ops D m = 0 := by
  intro ops D m hD
  induction m with
  | zero => rfl
  | succ m ih => simp [cix, hD, ih]

/-- A region whose order is drawn. -/
theorem draw_sound (hm : P.follows .mixedOrders = true) (hE : EnvOk P G E) (hG : GlOk σ G) {id : Nat} (ht : trOpers P G src src.toList = some l) (hok : drawOk src (permOps l π) bs π = true)
    (HR0 : HR σ B w0 h w) (hf : FR σ fr a.tmps) {n : Nat} {x : X} {fr' : List V} {h' : Heap} (hx : exec E n (.draw (permOps l π) (chksOf (permOps l π) (bAt bs π)) (achsOf (permOps l π) (bAt bs π))) fr h = some (x, fr', h'))
    {Q : Exit → Act → World → Prop} (hq : ∀ σ' a' w', Ext σ σ' h.length h'.length → FR σ' fr' a'.tmps → HR σ' B w0 h' w' → a'.defers = a.defers → Q .normal a' w') : x = .nrm ∧ (Code.region id src true).wp P Q a w := by
  have DO := dok_of hok
  have hl := DO.len
  simp only [exec] at hx
  split at hx
  · cases hx
  rename_i r hrun
  obtain ⟨rf, rh⟩ := r
  have hres : x = .nrm ∧ fr' = rf ∧ h' = rh ∧ ∃ tr, trace E (permOps l π) fr h = some tr ∧ (chksOf (permOps l π) (bAt bs π)).all (chkOne (permOps l π) tr) = true ∧ (achsOf (permOps l π) (bAt bs π)).all (achOne (permOps l π) tr) = true := by
    split at hx
    · rename_i he
      simp only [Bool.and_eq_true, List.isEmpty_iff] at he
      injection hx with hx
      injection hx with e1 e2
      injection e2 with e2 e3
      obtain ⟨tr, htr⟩ := trace_of hrun
      exact ⟨e1.symm, e2.symm, e3.symm, tr, htr, by rw [he.1]; rfl, by rw [he.2]; rfl⟩
    · split at hx
      · cases hx
      · rename_i tr htr
        split at hx
        · rename_i hc
          simp only [Bool.and_eq_true] at hc
          injection hx with hx
          injection hx with e1 e2
          injection e2 with e2 e3
          exact ⟨e1.symm, e2.symm, e3.symm, tr, htr, hc.1, hc.2⟩
        · cases hx
  obtain ⟨e1, e2, e3, tr, htr, hc1, hc2⟩ := hres
  subst e2
  subst e3
  refine ⟨e1, ?_⟩
  obtain ⟨frs, hs, vs, T, t1, t2, t3, t4, t5⟩ := tr_of E _ _ _ hrun
  have HK := hk_of T (t5 tr htr) hc1 hc2
  refine wp_region_any hm ?_
  refine any_go (σ0 := σ) (B := B) (w0 := w0) (ds := a.defers) hE hG ht DO T HK (fun σ' a' w' D I hD => ?_) src.size (List.range src.size) _ (fun _ => false) σ a _ (by simp) (by simp) (fun i hi _ => List.mem_range.2 hi) (fun k hk => ?_) (fun _ _ => rfl) ?_
  · have hcw : HR σ' B w0 (hs (permOps l π).length) w' := by
      obtain ⟨os, hos⟩ := grow T (c := cix (permOps l π) D (permOps l π).length) (e := (permOps l π).length) (cix_le D _) (Nat.le_refl _) (fun j a b => by
        cases hw : isW (opAt (permOps l π) j) with
        | false => rfl
        | true => have := cix_not D _ j a b (isWA_W hw); rw [hD j (by omega)] at this; cases this)
      rw [hos]
      exact I.heap.more os
    refine hq σ' a' w' ?_ (fun t => ?_) (by rw [← t4]; exact hcw) I.defers
    · have := I.ext; rw [t2, t4] at this; exact this
    · have := I.slots t
      rw [slot_congr (D := D) (D' := fun _ => true) (frs 0) _ (fun d hd _ => hD d (by omega)), ← slot_frs T t _ (Nat.le_refl _), t3] at this
      exact this
  · rw [Array.getD_eq_getD_getElem?, Array.getElem?_replicate]
    split <;> rfl
  · refine ⟨fun t => ?_, ?_, fun k hk _ i h1 h2 => ?_, Ext.refl _ _ _, rfl, fun j k _ hc => by cases hc⟩
    · rw [slot_cut (k := 0) (frs 0) _ (Nat.zero_le _) (fun _ _ _ _ => rfl)]
      rw [t1]
      exact hf t
    · rw [cix_false _ (fun _ => rfl), t2]
      exact HR0.drew
    · have := lensLe hE.len T (c := 0) (e := k) (Nat.zero_le _) (by omega)
      rw [t2] at this
      cases hs0 : σ i with
      | none => rfl
      | some z => have := HR0.dom i z hs0; omega
end
end Am
end Go.Proofs.YtcndgnddipbbgaaGreat
