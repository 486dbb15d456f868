/-
  THE ABSTRACT MACHINE, part 12: a call.
  Conditions: none (lemmas over any program that mixes its orders).
-/
import Derived.Test.YtcndgnddipbbgaaGreatAm11
set_option linter.unusedVariables false
set_option linter.unusedSimpArgs false
namespace Go.Proofs.YtcndgnddipbbgaaGreat
namespace Am
open Go.RowKit

section
variable {P : Program} {G : Nat → Option Nat} {E : Env} {σ : Sg} {B : Nat} {w0 w : World} {h : Heap} {a : Act} {fr : List V}

theorem loadVar_run (H : HR σ B w0 h w) {t : TypeId} {agg : Bool} {n : Nat} (ha : aggT P t = some agg) (hn : szT P t = some n) (h1 : agg ∨ n = 1) {id off : Nat} {u : Value} (hu : VR σ (.p (some (id, off))) u)
    {cs : List V} (hg : getCells h id off n = some cs) {v : V} (hv : (if agg then some (V.g cs) else cs[0]?) = some v) : ∃ x, (asAddr u >>= loadVar t).run P w = .ok x w ∧ VR σ v x := by
  cases hu with
  | p hl =>
    obtain ⟨hlen, us, hr, hul, ho, hc⟩ := H.read hg hl
    rename_i l
    cases agg with
    | true =>
      simp at hv
      subst hv
      refine ⟨.agg us.toArray, ?_, .g hr⟩
      simp only [asAddr, Sem.run_bind, Sem.run_pure, Result.andThen_ok, loadVar, run_aggT ha, if_true, run_szT hn]
      rw [← hul, run_loadCells_list]
      · simp
      · intro j v hv
        rw [add0]
        exact hc j v hv
    | false =>
      simp at h1 hv
      subst h1
      obtain ⟨x, hx, hvx⟩ := hr.get hv
      refine ⟨x, ?_, hvx⟩
      have := hc 0 x hx
      simp only [Nat.add_zero] at this
      simp [asAddr, loadVar, run_aggT ha, this]

def resGo (tmps : Array Value) : ResultVar → Sem Value
  | .tmp t => pure (tmps.getD t undef)
  | .cell a t => do loadVar t (← asAddr (tmps.getD a undef))

theorem resAll_run (H : HR σ B w0 h w) (hf : FR σ fr a.tmps) : ∀ (l : List ResultVar) {rs : List RV}, trR P l = some rs → ∀ {vs : List V}, resAll fr h rs = some vs → ∃ us, (l.mapM (resGo a.tmps)).run P w = .ok us w ∧ VRs σ vs us := by
  intro l
  induction l with
  | nil =>
    intro rs hr vs hs
    simp [trR] at hr
    subst hr
    simp [resAll] at hs
    subst hs
    exact ⟨[], by simp, .nil⟩
  | cons r l ih =>
    intro rs hr vs hs
    have hstep : ∃ r' rs', rs = r' :: rs' ∧ trR P l = some rs' ∧ ∀ v, resOne fr h r' = some v → ∃ u, (resGo a.tmps r).run P w = .ok u w ∧ VR σ v u := by
      cases r with
      | tmp t =>
        simp only [trR] at hr
        obtain ⟨rs', h1, h2⟩ := map1 hr
        refine ⟨.tm t, rs', h2.symm, h1, fun v hv => ?_⟩
        simp only [resOne] at hv
        injection hv with hv
        subst hv
        exact ⟨_, by simp [resGo], (hf t).getD⟩
      | cell x t =>
        simp only [trR] at hr
        split at hr
        · rename_i agg n rs' h1 h2 h3
          split at hr
          · rename_i hc
            injection hr with hr
            refine ⟨.cell x agg n, rs', hr.symm, h3, fun v hv => ?_⟩
            simp only [resOne] at hv
            have hx := (hf x).getD
            generalize fr.getD x un = z at hv hx
            split at hv
            · rename_i id off
              split at hv
              · rename_i cs hg
                have := loadVar_run H h1 h2 hc hx hg hv
                exact this
              · cases hv
            · cases hv
          · cases hr
        · cases hr
    obtain ⟨r', rs', rfl, h1, h2⟩ := hstep
    simp only [resAll] at hs
    split at hs
    · rename_i v vs' hv hvs
      injection hs with hs
      subst hs
      obtain ⟨u, hu1, hu2⟩ := h2 v hv
      obtain ⟨us, hus1, hus2⟩ := ih h1 hvs
      exact ⟨u :: us, by simp [List.mapM_cons, hu1, hus1], .cons hu2 hus2⟩
    · cases hs

theorem results_run (H : HR σ B w0 h w) (hf : FR σ fr a.tmps) {fn : Func} {rs : List RV} (hr : trR P fn.results.toList = some rs) {v : V} (hs : resV fr h rs = some v) : ∃ u, (results fn a.tmps).run P w = .ok u w ∧ VR σ v u := by
  unfold resV at hs
  obtain ⟨vs, h1, h2⟩ := map1 hs
  obtain ⟨us, h3, h4⟩ := resAll_run H hf _ hr h1
  have hrun : (results fn a.tmps).run P w = .ok (if h : us.toArray.size = 1 then us.toArray[0] else .tuple us.toArray) w := by
    have : results fn a.tmps = (do let vs ← fn.results.mapM (resGo a.tmps); pure (if h : vs.size = 1 then vs[0] else .tuple vs)) := by
      unfold results
      congr 1
    rw [this, Array.mapM_eq_mapM_toList]
    simp [h3]
  rw [hrun]
  refine ⟨_, rfl, ?_⟩
  cases h4 with
  | nil =>
    simp only at h2
    subst h2
    exact .t .nil
  | cons ha hb =>
    cases hb with
    | nil =>
      simp only at h2
      subst h2
      simpa using ha
    | cons hb hc =>
      simp only at h2
      subst h2
      simpa using VR.t (.cons ha (.cons hb hc))

theorem VRs.rep (n : Nat) : VRs σ (List.replicate n un) (List.replicate n undef) := by
  induction n with
  | zero => exact .nil
  | succ n ih => rw [List.replicate_succ, List.replicate_succ]; exact .cons undef_VR ih

theorem FR.ofL {l : List V} {us : List Value} (hv : VRs σ l us) : FR σ l us.toArray := by
  intro t
  have hlen := hv.length
  rw [List.getElem?_toArray]
  cases h1 : l[t]? with
  | none =>
    have : us[t]? = none := List.getElem?_eq_none (by have := List.getElem?_eq_none_iff.1 h1; omega)
    rw [this]
    trivial
  | some v =>
    obtain ⟨u, hu, hr⟩ := hv.get h1
    rw [hu]
    exact hr

/-- What an oracle must answer for. -/
def Good (P : Program) (G : Nat → Option Nat) (f : Nat) (g : List V → Heap → Option (V × Heap)) : Prop :=
  ∀ args h v h', g args h = some (v, h') →
    (∃ fn, P.funcs[f]? = some fn ∧ fn.body.isSome = true ∧ (fn.name == "runtime.NumGoroutine") = false) ∧ h.length ≤ h'.length ∧
    ∀ σ B w0 w us, GlOk σ G → HR σ B w0 h w → VRs σ args us →
      Calls P f us.toArray w fun e w' => ∃ σ' u, e = .returned u ∧ VR σ' v u ∧ HR σ' B w0 h' w' ∧ Ext σ σ' h.length h'.length

theorem call_good (hm : P.follows .mixedOrders = true) (hE : EnvOk P G E) {f : Nat} {c : CF} (hF : (P.funcs[f]?).bind (trF P G) = some c) (n : Nat) :
    Good P G f fun args h => match exec E n c.body (frame0 c.nt args) h with
        | some (.nrm, fr, h') => (resV fr h' c.res).map (·, h')
        | some (.ret, fr, h') => (resV fr h' c.res).map (·, h')
        | _ => none := by
  intro args h v h' hs
  simp only at hs
  obtain ⟨fn, hfn, htr⟩ := Option.bind_eq_some_iff.1 hF
  unfold trF at htr
  split at htr
  · cases htr
  rename_i cd hb
  split at htr
  · cases htr
  rename_i hname
  split at htr
  · rename_i b rs hc hr
    injection htr with htr
    subst htr
    have key : ∃ x fr h1, exec E n b (frame0 fn.ntmps args) h = some (x, fr, h1) ∧ (x = .nrm ∨ x = .ret) ∧ resV fr h1 rs = some v ∧ h1 = h' := by
      split at hs
      · rename_i fr h1 he
        obtain ⟨z, hz, e⟩ := map1 hs
        injection e with e1 e2
        subst e1
        exact ⟨_, fr, h1, he, .inl rfl, hz, e2⟩
      · rename_i fr h1 he
        obtain ⟨z, hz, e⟩ := map1 hs
        injection e with e1 e2
        subst e1
        exact ⟨_, fr, h1, he, .inr rfl, hz, e2⟩
      · cases hs
    obtain ⟨x, fr, h1, he, hx, hv, rfl⟩ := key
    refine ⟨⟨fn, hfn, by simp [hb], by simpa using hname⟩, exec_len hE.len _ _ _ _ _ _ _ he, fun σ B w0 w us hG H hvs => ?_⟩
    refine calls_of_wp hfn hb ?_
    have hlen := hvs.length
    have hfr : FR σ (frame0 fn.ntmps args) (us.toArray ++ Array.replicate (fn.ntmps - us.toArray.size) undef) := by
      have := FR.ofL (hvs.app (VRs.rep (fn.ntmps - args.length)))
      unfold frame0
      have e : (us ++ List.replicate (fn.ntmps - args.length) undef).toArray = us.toArray ++ Array.replicate (fn.ntmps - us.toArray.size) undef := by
        apply Array.ext'
        simp [hlen]
      rw [e] at this
      exact this
    refine exec_sound hm hE n cd hc (a := { tmps := us.toArray ++ Array.replicate (fn.ntmps - us.toArray.size) undef, defers := [] }) hG H hfr he _ fun σ' a' w' e1 e2 e3 e4 => ?_
    obtain ⟨u, hu1, hu2⟩ := results_run (fn := fn) e3 e2 hr hv
    rcases hx with rfl | rfl
    · exact ⟨e4, u, hu1, σ', u, rfl, hu2, e3, e1⟩
    · exact ⟨e4, u, hu1, σ', u, rfl, hu2, e3, e1⟩
  · cases htr

/-- A call of the machine's is a call of the program's. -/
theorem call_sound (hm : P.follows .mixedOrders = true) {O : Nat → Option (List V → Heap → Option (V × Heap))} {F : Nat → Option CF} (hO : ∀ f g, O f = some g → Good P G f g) (hF : ∀ f c, F f = some c → (P.funcs[f]?).bind (trF P G) = some c) :
    ∀ n, EnvOk P G (call O F n) := by
  intro n
  induction n with
  | zero => intro f args h v h' hs; simp [call] at hs
  | succ n ih =>
    intro f args h v h' hs
    simp only [call] at hs
    split at hs
    · rename_i g hg
      exact hO f g hg args h v h' hs
    · split at hs
      · cases hs
      · rename_i c hc
        exact call_good hm ih (hF f c hc) n args h v h' hs
end
end Am
end Go.Proofs.YtcndgnddipbbgaaGreat
