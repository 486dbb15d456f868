/-
  THE ABSTRACT MACHINE, part 11: a body; a call.
  Conditions: none (lemmas over any program that mixes its orders).
-/
import Derived.Test.YtcndgnddipbbgaaGreatAm10
import Derived.Scope
set_option linter.unusedVariables false
set_option linter.unusedSimpArgs false
namespace Go.Proofs.YtcndgnddipbbgaaGreat
namespace Am
open Go.RowKit

section
variable {P : Program} {G : Nat → Option Nat} {E : Env} {σ : Sg} {B : Nat} {w0 w : World} {h : Heap} {a : Act} {fr : List V}

theorem iter_len {f : List V → Heap → Option (X × List V × Heap)} (hf : ∀ fr h x fr' h', f fr h = some (x, fr', h') → h.length ≤ h'.length) : ∀ (n : Nat) (fr : List V) (h : Heap) (x : X) (fr' : List V) (h' : Heap), iter f n fr h = some (x, fr', h') → h.length ≤ h'.length := by
  intro n
  induction n with
  | zero => intro fr h x fr' h' hs; simp [iter] at hs
  | succ n ih =>
    intro fr h x fr' h' hs
    simp only [iter] at hs
    split at hs
    · rename_i fr1 h1 he
      exact Nat.le_trans (hf _ _ _ _ _ he) (ih _ _ _ _ _ hs)
    · exact hf _ _ _ _ _ hs

theorem exec_len (hE : EnvLen E) (n : Nat) : ∀ (c : C) (fr : List V) (h : Heap) (x : X) (fr' : List V) (h' : Heap), exec E n c fr h = some (x, fr', h') → h.length ≤ h'.length := by
  intro c
  induction c with
  | skip => intro fr h x fr' h' hs; simp [exec] at hs; rw [hs.2.2]; exact Nat.le_refl _
  | reg ops =>
    intro fr h x fr' h' hs
    simp only [exec] at hs
    obtain ⟨r, h1, h2⟩ := map1 hs
    injection h2 with e1 e2; injection e2 with e2 e3
    rw [← e3]
    exact runOps_len hE (fr' := r.1) (h' := r.2) h1
  | draw ops chk ach =>
    intro fr h x fr' h' hs
    simp only [exec] at hs
    split at hs
    · cases hs
    · rename_i r hr
      have := runOps_len hE (fr' := r.1) (h' := r.2) hr
      split at hs
      · injection hs with hs; injection hs with e1 e2; injection e2 with e2 e3; rw [← e3]; exact this
      · split at hs
        · cases hs
        · split at hs
          · injection hs with hs; injection hs with e1 e2; injection e2 with e2 e3; rw [← e3]; exact this
          · cases hs
  | seq a b iha ihb =>
    intro fr h x fr' h' hs
    simp only [exec] at hs
    split at hs
    · rename_i fr1 h1 he
      exact Nat.le_trans (iha _ _ _ _ _ he) (ihb _ _ _ _ _ hs)
    · exact iha _ _ _ _ _ hs
  | cond c a b iha ihb =>
    intro fr h x fr' h' hs
    simp only [exec] at hs
    split at hs
    · exact iha _ _ _ _ _ hs
    · exact ihb _ _ _ _ _ hs
    · cases hs
  | blk id a iha =>
    intro fr h x fr' h' hs
    simp only [exec] at hs
    split at hs
    · rename_i j fr1 h1 he
      split at hs <;> (injection hs with hs; injection hs with e1 e2; injection e2 with e2 e3; rw [← e3]; exact iha _ _ _ _ _ he)
    · exact iha _ _ _ _ _ hs
  | loop a iha =>
    intro fr h x fr' h' hs
    simp only [exec] at hs
    exact iter_len iha _ _ _ _ _ _ hs
  | exit id => intro fr h x fr' h' hs; simp [exec] at hs; rw [hs.2.2]; exact Nat.le_refl _
  | ret => intro fr h x fr' h' hs; simp [exec] at hs; rw [hs.2.2]; exact Nat.le_refl _

def exitOf : X → Exit
  | .nrm => .normal
  | .ret => .ret
  | .ex id => .exit id

/-- What stands behind a body. -/
def After (B : Nat) (w0 : World) (σ : Sg) (h : Heap) (ds : List Deferred) (fr' : List V) (h' : Heap) (K : Act → World → Prop) : Prop :=
  ∀ σ' a' w', Ext σ σ' h.length h'.length → FR σ' fr' a'.tmps → HR σ' B w0 h' w' → a'.defers = ds → K a' w'

def Snd (P : Program) (G : Nat → Option Nat) (c : Code) (f : List V → Heap → Option (X × List V × Heap)) : Prop :=
  ∀ {σ : Sg} {B : Nat} {w0 w : World} {h : Heap} {a : Act} {fr : List V} {x : X} {fr' : List V} {h' : Heap}, GlOk σ G → HR σ B w0 h w → FR σ fr a.tmps → f fr h = some (x, fr', h') →
    ∀ Q : Exit → Act → World → Prop, After B w0 σ h a.defers fr' h' (Q (exitOf x)) → c.wp P Q a w

theorem iter_sound {c : Code} {f : List V → Heap → Option (X × List V × Heap)} (hf : ∀ fr h x fr' h', f fr h = some (x, fr', h') → h.length ≤ h'.length) (hs : Snd P G c f) : ∀ (n : Nat) {σ : Sg} {B : Nat} {w0 w : World} {h : Heap} {a : Act} {fr : List V} {x : X} {fr' : List V} {h' : Heap}, GlOk σ G → HR σ B w0 h w → FR σ fr a.tmps → iter f n fr h = some (x, fr', h') →
    ∀ Q : Exit → Act → World → Prop, After B w0 σ h a.defers fr' h' (Q (exitOf x)) → Code.rounds P c Q n a w := by
  intro n
  induction n with
  | zero => intro σ B w0 w h a fr x fr' h' _ _ _ hi; simp [iter] at hi
  | succ n ih =>
    intro σ B w0 w h a fr x fr' h' hG H hF hi Q hq
    rw [rounds_succ]
    simp only [iter] at hi
    split at hi
    · rename_i fr1 h1 he
      refine hs hG H hF he _ fun σ1 a1 w1 e1 e2 e3 e4 => ?_
      show Code.rounds P c Q n a1 w1
      refine ih (hG.mono e1.1) e3 e2 hi Q fun σ2 a2 w2 d1 d2 d3 d4 => hq σ2 a2 w2 ?_ d2 d3 (d4.trans e4)
      exact e1.trans d1 (hf _ _ _ _ _ he) (iter_len hf _ _ _ _ _ _ hi)
    · rename_i hno
      refine hs hG H hF hi _ fun σ1 a1 w1 e1 e2 e3 e4 => ?_
      have := hq σ1 a1 w1 e1 e2 e3 e4
      cases x with
      | nrm => exact (hno _ _ hi).elim
      | ret => exact this
      | ex id => exact this

theorem exec_sound (hm : P.follows .mixedOrders = true) (hE : EnvOk P G E) (n : Nat) : ∀ (c : Code) {cc : C}, trC P G c = some cc → Snd P G c (exec E n cc) := by
  intro c
  induction c with
  | skip =>
    intro cc ht
    simp [trC] at ht
    subst ht
    intro σ B w0 w h a fr x fr' h' hG H hF hx Q hq
    simp [exec] at hx
    obtain ⟨rfl, rfl, rfl⟩ := hx
    exact wp_skip (hq σ a w (Ext.refl _ _ _) hF H rfl)
  | region id ops draw =>
    intro cc ht
    intro σ B w0 w h a fr x fr' h' hG H hF hx Q hq
    cases draw with
    | false =>
      simp only [trC] at ht
      obtain ⟨l, hl, rfl⟩ := map1 ht
      simp only [exec] at hx
      obtain ⟨⟨f1, h1⟩, hr, he⟩ := map1 hx
      injection he with e1 e2; injection e2 with e2 e3
      subst e1; subst e2; subst e3
      exact wp_region_list (reg_sound hE ops.toList hl hG H hF hr fun σ' a' w' d1 d2 d3 d4 => hq σ' a' w' d1 d2 d3 d4)
    | true =>
      simp only [trC] at ht
      split at ht
      · rename_i l hl
        split at ht
        · rename_i hok
          injection ht with ht
          subst ht
          have hex : x = .nrm := by
            simp only [exec] at hx
            split at hx
            · cases hx
            · split at hx
              · injection hx with hx; injection hx with e1 _; exact e1.symm
              · split at hx
                · cases hx
                · split at hx
                  · injection hx with hx; injection hx with e1 _; exact e1.symm
                  · cases hx
          subst hex
          exact (draw_sound hm hE hG hl hok H hF hx fun σ' a' w' d1 d2 d3 d4 => hq σ' a' w' d1 d2 d3 d4).2
        · cases ht
      · cases ht
  | seq c d ihc ihd =>
    intro cc ht
    simp only [trC] at ht
    split at ht
    · rename_i y z hy hz
      injection ht with ht
      subst ht
      intro σ B w0 w h a fr x fr' h' hG H hF hx Q hq
      refine wp_seq ?_
      simp only [exec] at hx
      split at hx
      · rename_i fr1 h1 he
        refine ihc hy hG H hF he _ fun σ1 a1 w1 e1 e2 e3 e4 => ?_
        show d.wp P Q a1 w1
        refine ihd hz (hG.mono e1.1) e3 e2 hx Q fun σ2 a2 w2 d1 d2 d3 d4 => hq σ2 a2 w2 ?_ d2 d3 (d4.trans e4)
        exact e1.trans d1 (exec_len hE.len _ _ _ _ _ _ _ he) (exec_len hE.len _ _ _ _ _ _ _ hx)
      · rename_i hno
        refine ihc hy hG H hF hx _ fun σ1 a1 w1 e1 e2 e3 e4 => ?_
        have := hq σ1 a1 w1 e1 e2 e3 e4
        cases x with
        | nrm => exact (hno _ _ hx).elim
        | ret => exact this
        | ex id => exact this
    · cases ht
  | cond c x y ihx ihy =>
    intro cc ht
    simp only [trC] at ht
    split at ht
    · rename_i c' x' y' hc hx' hy'
      injection ht with ht
      subst ht
      intro σ B w0 w h a fr x fr' h' hG H hF hx Q hq
      have hv := ev_sound hG hc (hF.fro [c'] |>.sub (fun y hy => hy))
      simp only [exec] at hx
      generalize hu : a.eval c = u at hv
      generalize ev fr c' = z at hv hx
      split at hx
      · cases hv
        exact wp_cond hu (ihx hx' hG H hF hx Q hq)
      · cases hv
        exact wp_cond hu (ihy hy' hG H hF hx Q hq)
      · cases hx
    · cases ht
  | block id c ih =>
    intro cc ht
    simp only [trC] at ht
    obtain ⟨y, hy, rfl⟩ := map1 ht
    intro σ B w0 w h a fr x fr' h' hG H hF hx Q hq
    refine wp_block ?_
    simp only [exec] at hx
    split at hx
    · rename_i j fr1 h1 he
      refine ih hy hG H hF he _ ?_
      split at hx
      · rename_i hj
        injection hx with hx; injection hx with e1 e2; injection e2 with e2 e3
        subst e1; subst e2; subst e3
        intro σ1 a1 w1 e1 e2 e3 e4
        show Exit.inBlock id Q (.exit j) a1 w1
        simp only [Exit.inBlock, hj, if_true]
        exact hq σ1 a1 w1 e1 e2 e3 e4
      · rename_i hj
        injection hx with hx; injection hx with e1 e2; injection e2 with e2 e3
        subst e1; subst e2; subst e3
        intro σ1 a1 w1 e1 e2 e3 e4
        show Exit.inBlock id Q (.exit j) a1 w1
        simp only [Exit.inBlock, hj, if_false]
        exact hq σ1 a1 w1 e1 e2 e3 e4
    · rename_i hno
      refine ih hy hG H hF hx _ fun σ1 a1 w1 e1 e2 e3 e4 => ?_
      have := hq σ1 a1 w1 e1 e2 e3 e4
      cases x with
      | nrm => exact this
      | ret => exact this
      | ex j => exact (hno _ _ _ hx).elim
  | loop c ih =>
    intro cc ht
    simp only [trC] at ht
    obtain ⟨y, hy, rfl⟩ := map1 ht
    intro σ B w0 w h a fr x fr' h' hG H hF hx Q hq
    simp only [exec] at hx
    exact wp_loop_rounds n (iter_sound (exec_len hE.len n y) (ih hy) n hG H hF hx Q hq)
  | exit id =>
    intro cc ht
    simp [trC] at ht
    subst ht
    intro σ B w0 w h a fr x fr' h' hG H hF hx Q hq
    simp [exec] at hx
    obtain ⟨rfl, rfl, rfl⟩ := hx
    exact wp_exit (hq σ a w (Ext.refl _ _ _) hF H rfl)
  | ret =>
    intro cc ht
    simp [trC] at ht
    subst ht
    intro σ B w0 w h a fr x fr' h' hG H hF hx Q hq
    simp [exec] at hx
    obtain ⟨rfl, rfl, rfl⟩ := hx
    exact wp_ret (hq σ a w (Ext.refl _ _ _) hF H rfl)
  | scope c ih =>
    intro cc ht
    simp only [trC] at ht
    intro σ B w0 w h a fr x fr' h' hG H hF hx Q hq
    refine wp_scope_straight (ih ht hG H hF hx _ fun σ' a' w' d1 d2 d3 d4 => ?_)
    have := hq σ' a' w' d1 d2 d3 d4
    cases x <;> exact this
  | label l =>
    intro cc ht
    simp [trC] at ht
    subst ht
    intro σ B w0 w h a fr x fr' h' hG H hF hx Q hq
    simp [exec] at hx
    obtain ⟨rfl, rfl, rfl⟩ := hx
    exact wp_label (hq σ a w (Ext.refl _ _ _) hF H rfl)
  | _ => intro cc ht; simp [trC] at ht
end
end Am
end Go.Proofs.YtcndgnddipbbgaaGreat
