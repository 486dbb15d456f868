/-
  THE ABSTRACT MACHINE, part 8: a region whose order is drawn: whatever order, the machine's answer.
  Conditions: none (lemmas over any program that mixes its orders).
-/
import Derived.Test.YtcndgnddipbbgaaGreatAm7
set_option linter.unusedVariables false
set_option linter.unusedSimpArgs false
namespace Go.Proofs.YtcndgnddipbbgaaGreat
namespace Am
open Go.RowKit

structure DOk (src : Array Oper) (ops : List COp) (bs : Array Nat) (π : List Nat) : Prop where
  len : ops.length = src.size
  lt : ∀ i, i < src.size → pAt π i < src.size
  sur : ∀ i, i < src.size → ∃ k, k < src.size ∧ pAt π k = i
  inj : ∀ i j, i < j → j < src.size → pAt π i ≠ pAt π j
  edge : ∀ (i : Nat) (o : Oper), src[i]? = some o → ∀ e ∈ o.after, Region.binds .any e = true → e.on < i
  c1 : ∀ i j, i < j → j < src.size → bAt bs π j i = false
  c2 : ∀ d k t, d < src.size → k < src.size → d ≠ k → (opAt ops d).dst = some t → t ∈ (opAt ops k).names → bAt bs π (min d k) (max d k) = true
  c3 : ∀ i j, i < j → j < src.size → isW (opAt ops i) = true → isWA (opAt ops j) = true → bAt bs π i j = true
  bef : ∀ i k, i < src.size → k < src.size → bfT bs i k = true → ∃ o, src[k]? = some o ∧ ∃ e ∈ o.after, Region.binds .any e = true ∧ (e.on = i ∨ bfT bs i e.on = true)

theorem dok_of {src : Array Oper} {ops : List COp} {bs : Array Nat} {π : List Nat} (h : drawOk src ops bs π = true) : DOk src ops bs π := by
  unfold drawOk at h
  simp only [Bool.and_eq_true, beq_iff_eq] at h
  obtain ⟨⟨⟨⟨⟨⟨⟨⟨h1, h2⟩, h3⟩, h4⟩, h5⟩, h6⟩, h7⟩, h8⟩, h9⟩ := h
  have h3' : ∀ i, i < src.size → pAt π i < src.size ∧ i ∈ π := fun i hi => by
    have := allLt_iff h3 hi
    simpa using this
  refine ⟨h1, fun i hi => (h3' i hi).1, fun i hi => ?_, fun i j hij hj => ?_, fun i o ho e he hb => ?_, fun i j hij hj => ?_, fun d k t hd hk hne hdst hn => ?_, fun i j hij hj hi hw => ?_, fun i k hi hk hb => ?_⟩
  · obtain ⟨k, hk, he⟩ := List.getElem_of_mem (h3' i hi).2
    exact ⟨k, by omega, by simp [pAt, List.getD, List.getElem?_eq_getElem hk, he]⟩
  · have := allLt_iff (allLt_iff h4 hj) hij
    simpa using this
  · have hi : i < src.size := (Array.getElem?_eq_some_iff.1 ho).1
    have := allLt_iff h5 hi
    rw [ho] at this
    simp only [Array.all_eq_true_iff_forall_mem] at this
    have := this e he
    simpa [hb] using this
  · have := allLt_iff (allLt_iff h6 hj) hij
    simpa using this
  · have := allLt_iff (allLt_iff h7 hd) hk
    rw [hdst] at this
    simpa [hne, hn] using this
  · have := allLt_iff (allLt_iff h8 hj) hij
    simp only [isWA, Bool.or_eq_true] at hw
    have hw' : (isW (opAt ops j) || isA (opAt ops j)) = true := by simpa using hw
    rw [hi, hw'] at this
    simpa using this
  · have := allLt_iff (allLt_iff h9 hk) hi
    simp only [hb, Bool.not_true, Bool.false_or] at this
    split at this
    · rename_i o ho
      rw [Array.any_eq_true] at this
      obtain ⟨x, hx, hh⟩ := this
      simp only [Bool.and_eq_true, Bool.or_eq_true, beq_iff_eq] at hh
      exact ⟨o, ho, o.after[x], Array.getElem_mem hx, hh.1, hh.2⟩
    · cases this

section
variable {P : Program} {G : Nat → Option Nat} {E : Env}

theorem trOpers_get {ops : Array Oper} : ∀ {l : List Oper} {cl : List COp}, trOpers P G ops l = some cl → cl.length = l.length ∧ ∀ (i : Nat) (o : Oper), l[i]? = some o → ∃ c : COp, cl[i]? = some c ∧ trAct P G o.op = some c.act ∧ trGd ops o.guard = some c.gd ∧ c.dst = o.dst := by
  intro l
  induction l with
  | nil => intro cl h; simp [trOpers] at h; subst h; exact ⟨rfl, fun i o hi => by simp at hi⟩
  | cons o l ih =>
    intro cl h
    obtain ⟨ac, g, xs, h1, h2, h3, rfl⟩ := trOpers_cons h
    obtain ⟨h4, h5⟩ := ih h3
    refine ⟨by simp [h4], fun i o' hi => ?_⟩
    cases i with
    | zero => simp at hi; subst hi; exact ⟨_, rfl, h1, h2, rfl⟩
    | succ i => simpa using h5 i o' (by simpa using hi)

/-- The source's operation at a place of the machine's order. -/
theorem perm_get {src : Array Oper} {l : List COp} (ht : trOpers P G src src.toList = some l) {bs : Array Nat} {π : List Nat} (D : DOk src (permOps l π) bs π) {k : Nat} (hk : k < src.size) :
    ∃ o, src[pAt π k]? = some o ∧ trAct P G o.op = some (opAt (permOps l π) k).act ∧ trGd src o.guard = some (opAt (permOps l π) k).gd ∧ (opAt (permOps l π) k).dst = o.dst := by
  obtain ⟨h1, h2⟩ := trOpers_get ht
  have hp := D.lt k hk
  have hlen : π.length = src.size := by have := D.len; simpa [permOps] using this
  obtain ⟨c, hc, h3, h4, h5⟩ := h2 (pAt π k) src[pAt π k] (by simp [hp])
  have he : opAt (permOps l π) k = c := by
    have hk' : k < π.length := by omega
    simp only [opAt, permOps, List.getD_eq_getElem?_getD, List.getElem?_map, List.getElem?_eq_getElem hk', Option.map_some, Option.getD_some]
    have : pAt π k = π[k] := by simp [pAt, List.getD, List.getElem?_eq_getElem hk']
    rw [← this, hc]
    rfl
  exact ⟨src[pAt π k], by simp [hp], by rw [he]; exact h3, by rw [he]; exact h4, by rw [he]; exact h5⟩

theorem mem_opdTms {t : Nat} : ∀ {xs : List Opd}, Opd.tm t ∈ xs → t ∈ opdTms xs := by
  intro xs
  induction xs with
  | nil => intro h; cases h
  | cons x xs ih =>
    intro h
    cases x with
    | tm s =>
      rcases List.mem_cons.1 h with e | h
      · injection e with e; subst e; simp [opdTms]
      · simp [opdTms, ih h]
    | _ =>
      rcases List.mem_cons.1 h with e | h
      · cases e
      · simpa [opdTms] using ih h
theorem use_opd {o : COp} {t : Nat} (h : Opd.tm t ∈ o.act.opds) : t ∈ o.uses := List.mem_append_left _ (mem_opdTms h)
theorem use_gd {o : COp} {t : Nat} {b : Bool} (h : o.gd = some (t, b)) : t ∈ o.uses := List.mem_append_right _ (by simp [h])
theorem use_name {o : COp} {t : Nat} (h : t ∈ o.uses) : t ∈ o.names := List.mem_append_right _ h
theorem dst_name {o : COp} {t : Nat} (h : o.dst = some t) : t ∈ o.names := List.mem_append_left _ (by simp [h])

/-- What holds ahead of each step, in whatever order. -/
structure Inv (ops : List COp) (frs : Nat → List V) (hs : Nat → Heap) (vs : Nat → V) (b : Nat → Nat → Bool) (σ0 : Sg) (B : Nat) (w0 : World) (ds : List Deferred) (D : Nat → Bool) (σ : Sg) (a : Act) (w : World) : Prop where
  slots : ∀ t : Nat, SR σ (slotOf ops vs (frs 0) D ops.length t) a.tmps[t]?
  heap : HR σ B w0 (hs (cix ops D ops.length)) w
  fresh : ∀ k, k < ops.length → D k = false → ∀ i, (hs k).length ≤ i → i < (hs (k + 1)).length → σ i = none
  ext : Ext σ0 σ (hs 0).length (hs ops.length).length
  defers : a.defers = ds
  closed : ∀ j k, k < ops.length → D k = true → j < ops.length → b j k = true → D j = true

section
variable {src : Array Oper} {l : List COp} {bs : Array Nat} {π : List Nat} {frs : Nat → List V} {hs : Nat → Heap} {vs : Nat → V} {σ0 σ : Sg} {B : Nat} {w0 w : World} {ds : List Deferred} {D D' : Nat → Bool} {a : Act} {k : Nat}

theorem Inv.used (DO : DOk src (permOps l π) bs π) (T : Tr E (permOps l π) frs hs vs) (I : Inv (permOps l π) frs hs vs (bAt bs π) σ0 B w0 ds D σ a w) (hk : k < src.size) (hD : D k = false) (hr : ∀ j, j < src.size → bAt bs π j k = true → D j = true) {t : Nat}
    (ht : t ∈ (opAt (permOps l π) k).names) : slotOf (permOps l π) vs (frs 0) D (permOps l π).length t = (frs k)[t]? := by
  have hl := DO.len
  rw [slot_frs T t k (by omega), slot_cut (frs 0) (k := k) (permOps l π).length (by omega)]
  · refine slot_congr _ _ fun d hd hdst => ?_
    have := DO.c2 d k t (by omega) hk (by omega) hdst ht
    rw [Nat.min_eq_left (by omega), Nat.max_eq_right (by omega)] at this
    exact hr d (by omega) this
  · intro d hkd hdl hdst
    by_cases e : d = k
    · rw [e]; exact hD
    · have := DO.c2 d k t (by omega) hk e hdst ht
      rw [Nat.min_eq_right (by omega), Nat.max_eq_left (by omega)] at this
      cases hDd : D d with
      | false => rfl
      | true => have := I.closed k d hdl hDd (by omega) this; rw [hD] at this; cases this

/-- Behind a step: the slots. -/
theorem Inv.slots' (DO : DOk src (permOps l π) bs π) (T : Tr E (permOps l π) frs hs vs) (I : Inv (permOps l π) frs hs vs (bAt bs π) σ0 B w0 ds D σ a w) (hk : k < src.size) (hD : D k = false)
    (hD' : ∀ j, D' j = (D j || decide (j = k))) {σ' : Sg} (hle : Le σ σ') {u : Value} (hv : VR σ' (vs k) u) (t : Nat) : SR σ' (slotOf (permOps l π) vs (frs 0) D' (permOps l π).length t) (a.put (opAt (permOps l π) k).dst u).tmps[t]? := by
  have hl := DO.len
  have h0 := (I.slots t).mono hle
  by_cases hdst : (opAt (permOps l π) k).dst = some t
  · rw [slot_last (frs 0) hdst (by simp [hD']) (permOps l π).length (by omega)]
    · rw [hdst]
      have hso := slot_isSome (ops := permOps l π) (vs := vs) (frs 0) D t (permOps l π).length
      have := h0.put hv
      have e : ((slotOf (permOps l π) vs (frs 0) D (permOps l π).length t).map fun _ => vs k) = (frs 0)[t]?.map fun _ => vs k := by
        cases h1 : slotOf (permOps l π) vs (frs 0) D (permOps l π).length t <;> cases h2 : (frs 0)[t]? <;> rw [h1, h2] at hso <;> first | rfl | cases hso
      rw [e] at this
      exact this
    · intro d hkd hdl hdst2
      have := DO.c2 d k t (by omega) hk (by omega) hdst2 (dst_name hdst)
      rw [Nat.min_eq_right (by omega), Nat.max_eq_left (by omega)] at this
      cases hDd : D d with
      | false => simp [hD', hDd]; omega
      | true => have := I.closed k d hdl hDd (by omega) this; rw [hD] at this; cases this
  · rw [slot_congr (D := D') (D' := D) (frs 0) (permOps l π).length (fun d hd hdst2 => by
      have : d ≠ k := by intro e; subst e; exact hdst hdst2
      simp [hD', this])]
    cases hd2 : (opAt (permOps l π) k).dst with
    | none => exact h0
    | some d =>
      have : d ≠ t := by intro e; subst e; exact hdst hd2
      simp only [Act.put]
      rw [Array.getElem?_setIfInBounds_ne this]
      exact h0

/-- Behind a step: all of it. -/
theorem Inv.step (hE : EnvLen E) (DO : DOk src (permOps l π) bs π) (T : Tr E (permOps l π) frs hs vs) (I : Inv (permOps l π) frs hs vs (bAt bs π) σ0 B w0 ds D σ a w) (hk : k < src.size) (hD : D k = false) (hr : ∀ j, j < src.size → bAt bs π j k = true → D j = true)
    (hD' : ∀ j, D' j = (D j || decide (j = k))) {σ' : Sg} (he : Ext σ σ' (hs k).length (hs (k + 1)).length) {u : Value} (hv : VR σ' (vs k) u) {w' : World} (hH : HR σ' B w0 (hs (cix (permOps l π) D' (permOps l π).length)) w') :
    Inv (permOps l π) frs hs vs (bAt bs π) σ0 B w0 ds D' σ' (a.put (opAt (permOps l π) k).dst u) w' := by
  have hl := DO.len
  refine ⟨fun t => I.slots' DO T hk hD hD' he.1 hv t, hH, fun m hm hDm i h1 h2 => ?_, ⟨I.ext.1.trans he.1, fun i hi => ?_⟩, ?_, fun j m hm hDm hj hb => ?_⟩
  · rw [hD'] at hDm
    simp only [Bool.or_eq_false_iff, decide_eq_false_iff_not] at hDm
    rw [he.2 i ?_]
    · exact I.fresh m hm hDm.1 i h1 h2
    · rcases Nat.lt_or_ge m k with hmk | hmk
      · have := lensLe hE T (c := m + 1) (e := k) (by omega) (by omega); left; omega
      · have := lensLe hE T (c := k + 1) (e := m) (by omega) (by omega); right; omega
  · have h3 := lensLe hE T (c := 0) (e := k) (by omega) (by omega)
    have h4 := lensLe hE T (c := k + 1) (e := (permOps l π).length) (by omega) (by omega)
    have h5 := lensLe hE T (c := k) (e := k + 1) (by omega) (by omega)
    rw [he.2 i (by omega)]
    exact I.ext.2 i hi
  · rw [← I.defers]; cases (opAt (permOps l π) k).dst <;> rfl
  · rw [hD'] at hDm ⊢
    simp only [Bool.or_eq_true, decide_eq_true_eq] at hDm ⊢
    rcases hDm with hDm | rfl
    · exact .inl (I.closed j m hm hDm hj hb)
    · exact .inl (hr j (by omega) hb)
end
end
end Am
end Go.Proofs.YtcndgnddipbbgaaGreat
