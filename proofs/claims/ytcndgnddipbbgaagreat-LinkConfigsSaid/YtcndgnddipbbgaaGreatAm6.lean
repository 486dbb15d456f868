/-
  THE ABSTRACT MACHINE, part 6: a step of a region, and a region whose order the text fixes.
  Conditions: none (lemmas over any program).
-/
import Derived.Test.YtcndgnddipbbgaaGreatAm5
set_option linter.unusedVariables false
set_option linter.unusedSimpArgs false
namespace Go.Proofs.YtcndgnddipbbgaaGreat
namespace Am
open Go.RowKit

/-- A slot holds what the abstract frame says. -/
def SR (σ : Sg) : Option V → Option Value → Prop
  | some v, some u => VR σ v u
  | none, none => True
  | _, _ => False
theorem SR.mono {σ σ' : Sg} (hle : Le σ σ') {v : Option V} {u : Option Value} (h : SR σ v u) : SR σ' v u := by
  cases v <;> cases u <;> first | trivial | exact VR.mono hle h | exact h.elim
def FR (σ : Sg) (fr : List V) (tmps : Array Value) : Prop := ∀ t : Nat, SR σ fr[t]? tmps[t]?
theorem FR.mono {σ σ' : Sg} (hle : Le σ σ') {fr : List V} {tmps : Array Value} (h : FR σ fr tmps) : FR σ' fr tmps := fun t => (h t).mono hle
theorem SR.getD {σ : Sg} {fr : List V} {tmps : Array Value} {t : Nat} (h : SR σ fr[t]? tmps[t]?) : VR σ (fr.getD t un) (tmps.getD t undef) := by
  rw [List.getD_eq_getElem?_getD, Array.getD_eq_getD_getElem?]
  cases h1 : fr[t]? <;> cases h2 : tmps[t]? <;> rw [h1, h2] at h <;> first | exact undef_VR | exact h | exact h.elim
theorem FR.fro {σ : Sg} {fr : List V} {tmps : Array Value} (h : FR σ fr tmps) (xs : List Opd) : FRo σ fr tmps xs := fun t _ => (h t).getD

theorem SR.put {σ : Sg} {v0 : Option V} {tmps : Array Value} {t : Nat} (h : SR σ v0 tmps[t]?) {v : V} {u : Value} (hv : VR σ v u) : SR σ (v0.map fun _ => v) (tmps.setIfInBounds t u)[t]? := by
  by_cases ht : t < tmps.size
  · rw [Array.getElem?_setIfInBounds_self_of_lt ht]
    rw [Array.getElem?_eq_getElem ht] at h
    cases v0 with
    | none => exact h.elim
    | some x => exact hv
  · rw [Array.getElem?_eq_none (by simpa using ht)]
    rw [Array.getElem?_eq_none (by omega)] at h
    cases v0 with
    | none => trivial
    | some x => exact h.elim

theorem put_get (fr : List V) (d t : Nat) (v : V) : (fr.set d v)[t]? = if d = t then fr[t]?.map (fun _ => v) else fr[t]? := by
  by_cases e : d = t
  · subst e
    rw [if_pos rfl]
    by_cases h : d < fr.length
    · rw [List.getElem?_set_self h, List.getElem?_eq_getElem h]; rfl
    · rw [List.getElem?_eq_none (by simp; omega), List.getElem?_eq_none (by omega)]; rfl
  · rw [if_neg e, List.getElem?_set_ne e]

theorem FR.put {σ : Sg} {fr : List V} {a : Act} (h : FR σ fr a.tmps) (d : Option Nat) {v : V} {u : Value} (hv : VR σ v u) : FR σ (Am.put fr d v) (a.put d u).tmps := by
  cases d with
  | none => exact h
  | some d =>
    intro t
    simp only [Am.put, Act.put]
    rw [put_get]
    by_cases e : d = t
    · subst e; rw [if_pos rfl]; exact (h d).put hv
    · rw [if_neg e, Array.getElem?_setIfInBounds_ne e]; exact h t

/-- What a callee's answer is worth. -/
def EnvOk (P : Program) (G : Nat → Option Nat) (E : Env) : Prop :=
  ∀ f args h v h', E f args h = some (v, h') →
    (∃ fn, P.funcs[f]? = some fn ∧ fn.body.isSome = true ∧ (fn.name == "runtime.NumGoroutine") = false) ∧ h.length ≤ h'.length ∧
    ∀ σ B w0 w us, GlOk σ G → HR σ B w0 h w → VRs σ args us →
      Calls P f us.toArray w fun e w' => ∃ σ' u, e = .returned u ∧ VR σ' v u ∧ HR σ' B w0 h' w' ∧ Ext σ σ' h.length h'.length

section
variable {P : Program} {G : Nat → Option Nat} {E : Env} {σ : Sg} {B : Nat} {w0 w : World} {h : Heap} {a : Act} {fr : List V}

theorem allocS_of {ao : AOp} (hk : ao.kd = .alloc) {v : V} {h' : Heap} (hs : opS ao fr h = some (v, h')) : ∃ ob mk, allocS ao fr = some (ob, mk) ∧ v = mk h.length ∧ h' = h ++ [ob] := by
  cases ao <;> simp [AOp.kd] at hk <;> (try (split at hk <;> cases hk)) <;> simp only [opS] at hs <;>
    (obtain ⟨⟨ob, mk⟩, h1, h2⟩ := map1 hs; injection h2 with e1 e2; exact ⟨ob, mk, h1, e1.symm, e2.symm⟩)

theorem ext_upd {σ : Sg} {id : Nat} {l : Loc} (hn : σ id = none) : Ext σ (upd σ id l) id (id + 1) := ⟨upd_le _ hn, fun i hi => upd_other (by omega)⟩

theorem opS_quiet {ao : AOp} (hq : ao.quiet = true) {v : V} {h' : Heap} (hs : opS ao fr h = some (v, h')) : h' = h := by
  cases ao <;> simp [AOp.quiet, AOp.kd] at hq <;> simp only [opS] at hs <;> (repeat' split at hs) <;>
    first
      | (cases hs; done)
      | (obtain ⟨_, rfl⟩ := pair_inj hs; rfl)
      | (obtain ⟨_, _, hh⟩ := map1 hs; injection hh with _ e2; exact e2.symm)

theorem opS_len {ao : AOp} {v : V} {h' : Heap} (hs : opS ao fr h = some (v, h')) : h.length ≤ h'.length := by
  cases hk : ao.kd with
  | pure => rw [opS_quiet (by simp [AOp.quiet, hk]) hs]; exact Nat.le_refl _
  | read => rw [opS_quiet (by simp [AOp.quiet, hk]) hs]; exact Nat.le_refl _
  | alloc => obtain ⟨ob, mk, _, _, rfl⟩ := allocS_of hk hs; simp
  | world =>
    cases ao <;> simp [AOp.kd] at hk <;> (try (split at hk <;> cases hk)) <;> simp only [opS, appendG] at hs <;> (repeat' split at hs) <;>
      first
        | (cases hs; done)
        | (obtain ⟨_, rfl⟩ := pair_inj hs; simp; done)
        | (obtain ⟨h1, hset, hh⟩ := map1 hs; injection hh with _ e2; subst e2; obtain ⟨vs, _, _, _, rfl⟩ := setCells_some hset; simp)

def EnvLen (E : Env) : Prop := ∀ f args h v h', E f args h = some (v, h') → h.length ≤ h'.length
theorem EnvOk.len (hE : EnvOk P G E) : EnvLen E := fun f args h v h' hs => (hE f args h v h' hs).2.1
theorem actS_len (hE : EnvLen E) {ac : Act'} {v : V} {h' : Heap} (hs : actS E ac fr h = some (v, h')) : h.length ≤ h'.length := by
  unfold actS at hs
  split at hs
  · exact opS_len hs
  · exact hE _ _ _ _ _ hs
  · split at hs
    · exact hE _ _ _ _ _ hs
    · cases hs
theorem stepS_len (hE : EnvLen E) {o : COp} {v : V} {h' : Heap} (hs : stepS E o fr h = some (v, h')) : h.length ≤ h'.length := by
  unfold stepS at hs
  split at hs
  · exact actS_len hE hs
  · obtain ⟨_, rfl⟩ := pair_inj hs; exact Nat.le_refl _
theorem runOps_len (hE : EnvLen E) : ∀ {l : List COp} {fr : List V} {h : Heap} {fr' : List V} {h' : Heap}, runOps E l fr h = some (fr', h') → h.length ≤ h'.length := by
  intro l
  induction l with
  | nil => intro fr h fr' h' hs; simp [runOps] at hs; rw [hs.2]; exact Nat.le_refl _
  | cons o l ih =>
    intro fr h fr' h' hs
    simp only [runOps] at hs
    split at hs
    · exact Nat.le_trans (stepS_len hE (by assumption)) (ih hs)
    · cases hs

/-- An operation: where it comes to a value, the rest goes on from there. -/
theorem op_step (hG : GlOk σ G) (H : HR σ B w0 h w) {o : Oper} {ao : AOp} (ht : trOp P G o.op = some ao) (hf : FRo σ fr a.tmps ao.opds) {v : V} {h' : Heap} (hs : opS ao fr h = some (v, h')) :
    W1 P o a σ B w0 h w v h' := by
  cases hk : ao.kd with
  | pure =>
    obtain ⟨rfl, u, h1, h2⟩ := quiet_sound hG H ht (by simp [AOp.quiet, hk]) hf hs
    exact ⟨σ, u, w, .inl h1, h2, H, Ext.refl _ _ _⟩
  | read =>
    obtain ⟨rfl, u, h1, h2⟩ := quiet_sound hG H ht (by simp [AOp.quiet, hk]) hf hs
    exact ⟨σ, u, w, .inl h1, h2, H, Ext.refl _ _ _⟩
  | alloc =>
    obtain ⟨ob, mk, h1, rfl, rfl⟩ := allocS_of hk hs
    have hn : σ h.length = none := by
      cases hq : σ h.length with
      | none => rfl
      | some x => have := H.dom _ _ hq; omega
    obtain ⟨l, u, w', r1, r2, r3⟩ := alloc_sound hG (H.more [ob]) ht hf h1 (id := h.length) (by simp) hn
    exact ⟨_, u, w', .inl r1, r2, r3, by simpa using ext_upd hn⟩
  | world => exact world_sound hG H ht hk hf hs

theorem wp_of_W1 {o : Oper} {next : Act → World → Prop} {Q : Exit → Act → World → Prop} {v : V} {h' : Heap} (hw : W1 P o a σ B w0 h w v h')
    (hn : ∀ σ' u w', Ext σ σ' h.length h'.length → VR σ' v u → HR σ' B w0 h' w' → next (a.put o.dst u) w') : o.wp P a w next Q := by
  obtain ⟨σ', u, w', hr, h1, h2, h3⟩ := hw
  have := hn σ' u w' h3 h1 h2
  rcases hr with hr | ⟨hr, rfl⟩
  · unfold Oper.wp; rw [hr]; exact this
  · unfold Oper.wp; rw [hr]; exact this

theorem call_wp (hE : EnvOk P G E) (hG : GlOk σ G) (H : HR σ B w0 h w) {o : Oper} {f : Nat} {args : List V} {us : List Value} (hr : VRs σ args us) {v : V} {h' : Heap} (hs : E f args h = some (v, h')) (hx : (execOp a.eval o).run P w = (callFunc f us.toArray).run P w)
    {next : Act → World → Prop} {Q : Exit → Act → World → Prop} (hn : ∀ σ' u w', Ext σ σ' h.length h'.length → VR σ' v u → HR σ' B w0 h' w' → next (a.put o.dst u) w') : o.wp P a w next Q := by
  obtain ⟨⟨fn, hf, hb, hname⟩, hlen, hc⟩ := hE f args h v h' hs
  have hrun : (callFunc f us.toArray).run P w = .ok (.enter f us.toArray) w := by
    have hbn : fn.body.isNone = false := by cases hq : fn.body <;> simp [hq] at hb ⊢
    unfold callFunc
    simp only [Sem.run_bind, run_program, Result.andThen_ok, hf, hname, hbn]
    rfl
  unfold Oper.wp
  rw [hx, hrun]
  show Calls P f us.toArray w _
  refine (hc σ B w0 w us hG H hr).mono ?_
  rintro e w' ⟨σ', u, rfl, h1, h2, h3⟩
  exact hn σ' u w' h3 h1 h2

/-- A step of a region. -/
theorem act_step (hE : EnvOk P G E) (hG : GlOk σ G) (H : HR σ B w0 h w) {o : Oper} {ac : Act'} (ht : trAct P G o.op = some ac) (hf : FRo σ fr a.tmps ac.opds) {v : V} {h' : Heap} (hs : actS E ac fr h = some (v, h'))
    {next : Act → World → Prop} {Q : Exit → Act → World → Prop} (hn : ∀ σ' u w', Ext σ σ' h.length h'.length → VR σ' v u → HR σ' B w0 h' w' → next (a.put o.dst u) w') : o.wp P a w next Q := by
  have hop : ∀ {ao}, trOp P G o.op = some ao → ac = .op ao → o.wp P a w next Q := by
    intro ao h1 e
    subst e
    exact wp_of_W1 (op_step hG H h1 hf hs) hn
  unfold trAct at ht
  split at ht
  · rename_i c hc
    split at ht
    · rename_i f hcal
      obtain ⟨ys, hy, rfl⟩ := map1 ht
      refine call_wp hE hG H (evs_sound hG hy hf) hs ?_ hn
      simp only [execOp, hc, resolve, hcal]
      simp [Act.eval, Deferred.ofValue, invoke]
      rw [← Array.toList_map]
    · rename_i x hne hcal
      split at ht
      · rename_i x' ys hx hy
        injection ht with ht
        subst ht
        have hv := ev_sound hG hx (hf.sub (by simp [Act'.opds]))
        have hvs := evs_sound hG hy (hf.sub (by simp [Act'.opds]; intro y hy; exact Or.inr hy))
        simp only [actS] at hs
        have hx' : (execOp a.eval o).run P w = (do let d ← Deferred.ofValue (a.eval x) (c.args.map a.eval); invoke d.target d.args : Sem Next).run P w := by
          simp only [execOp, hc, resolve, hcal]
        generalize a.eval x = u at hv hx'
        generalize ev fr x' = z at hv hs
        split at hs
        · rename_i f cs
          cases hv with
          | f _ hcs =>
            refine call_wp hE hG H (hvs.app hcs) hs ?_ hn
            rw [hx']
            simp [Deferred.ofValue, invoke]
            rw [← Array.toList_map]
            congr 2
            apply Array.ext'
            simp
        · cases hs
      · cases ht
    · obtain ⟨ao, h1, h2⟩ := map1 ht
      exact hop (by rw [hc]; rw [hc] at h1; exact h1) h2.symm
    · cases ht
  · obtain ⟨ao, h1, h2⟩ := map1 ht
    exact hop h1 h2.symm

theorem wants_eq {ops : Array Oper} {o : Oper} {g : Option (Nat × Bool)} (ht : trGd ops o.guard = some g) {tmps : Array Value} (hf : ∀ t b, g = some (t, b) → SR σ fr[t]? tmps[t]?) : Region.wanted o (yielded ops tmps) = wants fr g := by
  unfold trGd at ht
  unfold Region.wanted
  split at ht
  · injection ht with ht; subst ht; rename_i hg; rw [hg]; rfl
  · rename_i j wv hg
    split at ht
    · rename_i t hd
      injection ht with ht
      subst ht
      rw [hg]
      have h1 := hf t wv rfl
      simp only [wants, yielded, hd, Option.bind_some]
      cases h2 : fr[t]? with
      | none =>
        rw [h2] at h1
        cases h3 : tmps[t]? with
        | none => simp
        | some u => rw [h3] at h1; exact h1.elim
      | some v =>
        rw [h2] at h1
        cases h3 : tmps[t]? with
        | none => rw [h3] at h1; exact h1.elim
        | some u => rw [h3] at h1; cases h1 <;> simp
    · cases ht

theorem trOpers_cons {ops : Array Oper} {o : Oper} {l : List Oper} {cl : List COp} (h : trOpers P G ops (o :: l) = some cl) : ∃ ac g xs, trAct P G o.op = some ac ∧ trGd ops o.guard = some g ∧ trOpers P G ops l = some xs ∧ cl = ⟨o.dst, ac, g⟩ :: xs := by
  simp only [trOpers] at h
  split at h
  · rename_i x xs hx hxs
    injection h with h
    unfold trOper at hx
    split at hx
    · rename_i ac g h1 h2
      injection hx with hx
      exact ⟨ac, g, xs, h1, h2, hxs, by rw [← h, ← hx]⟩
    · cases hx
  · cases h

/-- A region in the text's order. -/
theorem reg_sound (hE : EnvOk P G E) {ops : Array Oper} {Q : Exit → Act → World → Prop} : ∀ (l : List Oper) {cl : List COp}, trOpers P G ops l = some cl → ∀ {σ : Sg} {w : World} {h : Heap} {a : Act} {fr : List V}, GlOk σ G → HR σ B w0 h w → FR σ fr a.tmps →
    ∀ {fr' : List V} {h' : Heap}, runOps E cl fr h = some (fr', h') →
    (∀ σ' a' w', Ext σ σ' h.length h'.length → FR σ' fr' a'.tmps → HR σ' B w0 h' w' → a'.defers = a.defers → Q .normal a' w') → wpList P ops Q l a w := by
  intro l
  induction l with
  | nil =>
    intro cl ht σ w h a fr hG H hf fr' h' hs hq
    simp [trOpers] at ht
    subst ht
    simp [runOps] at hs
    obtain ⟨rfl, rfl⟩ := hs
    exact hq σ a w (Ext.refl _ _ _) hf H rfl
  | cons o l ih =>
    intro cl ht σ w h a fr hG H hf fr' h' hs hq
    obtain ⟨ac, g, xs, h1, h2, h3, rfl⟩ := trOpers_cons ht
    simp only [runOps] at hs
    split at hs
    · rename_i v h1' hst
      have hl1 := stepS_len hE.len hst
      have hl2 := runOps_len hE.len hs
      simp only [stepS] at hst
      have hw := wants_eq (fr := fr) h2 (tmps := a.tmps) (fun t b _ => hf t)
      rw [wpList]
      by_cases hwt : wants fr g = true
      · rw [if_pos hwt] at hst
        rw [hw, if_pos hwt]
        left
        refine act_step hE hG H h1 (hf.fro _) hst (fun σ' u w' e1 e2 e3 => ?_)
        refine ih h3 (hG.mono e1.1) e3 ((hf.mono e1.1).put o.dst e2) hs (fun σ'' a'' w'' he' hf' HR'' hd => ?_)
        refine hq σ'' a'' w'' (e1.trans he' hl1 hl2) hf' HR'' (hd.trans ?_)
        cases o.dst <;> rfl
      · rw [if_neg hwt] at hst
        injection hst with hst
        injection hst with e1 e2
        subst e1; subst e2
        rw [hw, if_neg hwt]
        refine ih h3 hG H (hf.put o.dst undef_VR) hs (fun σ'' a'' w'' he' hf' HR'' hd => hq σ'' a'' w'' he' hf' HR'' (hd.trans ?_))
        cases o.dst <;> rfl
    · cases hs
end
end Am
end Go.Proofs.YtcndgnddipbbgaaGreat
