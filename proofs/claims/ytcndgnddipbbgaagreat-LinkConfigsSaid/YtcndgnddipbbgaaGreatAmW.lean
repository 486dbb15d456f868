/-
  THE ABSTRACT MACHINE, part W: more fuel gives the same answer; a walk as rewriting: what is still to be run stands in a row ahead of what is asked at the end.
  Conditions: none (definitions and lemmas).
-/
import Derived.Test.YtcndgnddipbbgaaGreatAm1
set_option linter.unusedVariables false
set_option linter.unusedSimpArgs false
namespace Go.Proofs.YtcndgnddipbbgaaGreat
namespace Am

/-! ### Short words of a printed text -/
abbrev o (d : Nat) (a : AOp) : COp := ⟨some d, .op a, none⟩
abbrev oN (a : AOp) : COp := ⟨none, .op a, none⟩
abbrev oC (d f : Nat) (xs : List Opd) : COp := ⟨some d, .callf f xs, none⟩

/-! ### More fuel -/
def EnvLe (E E' : Env) : Prop := ∀ f args h r, E f args h = some r → E' f args h = some r

section
variable {E E' : Env}
theorem actS_le (hE : EnvLe E E') {a : Act'} {fr : List V} {h : Heap} {r : V × Heap} (hs : actS E a fr h = some r) : actS E' a fr h = some r := by
  cases a with
  | op o => exact hs
  | callf f xs => exact hE _ _ _ _ hs
  | callv x xs =>
    simp only [actS] at hs ⊢
    split at hs
    · exact hE _ _ _ _ hs
    · cases hs
theorem stepS_le (hE : EnvLe E E') {o : COp} {fr : List V} {h : Heap} {r : V × Heap} (hs : stepS E o fr h = some r) : stepS E' o fr h = some r := by
  unfold stepS at hs ⊢
  split at hs
  · rename_i hw; rw [if_pos hw]; exact actS_le hE hs
  · rename_i hw; rw [if_neg hw]; exact hs
theorem runOps_le (hE : EnvLe E E') : ∀ (ops : List COp) {fr : List V} {h : Heap} {r : List V × Heap}, runOps E ops fr h = some r → runOps E' ops fr h = some r := by
  intro ops
  induction ops with
  | nil => intro fr h r hs; exact hs
  | cons o ops ih =>
    intro fr h r hs
    simp only [runOps] at hs ⊢
    split at hs
    · rename_i v h' hst
      rw [stepS_le hE hst]
      exact ih hs
    · cases hs
theorem trace_le (hE : EnvLe E E') : ∀ (ops : List COp) {fr : List V} {h : Heap} {r : List (List V × Heap)}, trace E ops fr h = some r → trace E' ops fr h = some r := by
  intro ops
  induction ops with
  | nil => intro fr h r hs; exact hs
  | cons o ops ih =>
    intro fr h r hs
    simp only [trace] at hs ⊢
    split at hs
    · rename_i v h' hst
      rw [stepS_le hE hst]
      simp only [Option.map_eq_some_iff] at hs ⊢
      obtain ⟨t, h1, h2⟩ := hs
      exact ⟨t, ih h1, h2⟩
    · cases hs
theorem iter_le {f g : List V → Heap → Option (X × List V × Heap)} (hfg : ∀ fr h r, f fr h = some r → g fr h = some r) : ∀ (n m : Nat), n ≤ m → ∀ {fr : List V} {h : Heap} {r : X × List V × Heap}, iter f n fr h = some r → iter g m fr h = some r := by
  intro n
  induction n with
  | zero => intro m _ fr h r hs; simp [iter] at hs
  | succ n ih =>
    intro m hm fr h r hs
    obtain ⟨m, rfl⟩ : ∃ k, m = k + 1 := ⟨m - 1, by omega⟩
    simp only [iter] at hs ⊢
    cases hf : f fr h with
    | none => rw [hf] at hs; cases hs
    | some q =>
      rw [hf] at hs
      rw [hfg _ _ _ hf]
      obtain ⟨x, fr', h'⟩ := q
      cases x with
      | nrm => exact ih m (by omega) hs
      | ret => exact hs
      | ex id => exact hs
theorem exec_le (hE : EnvLe E E') {n m : Nat} (hnm : n ≤ m) : ∀ (c : C) {fr : List V} {h : Heap} {r : X × List V × Heap}, exec E n c fr h = some r → exec E' m c fr h = some r := by
  intro c
  induction c with
  | skip => intro fr h r hs; exact hs
  | reg ops =>
    intro fr h r hs
    simp only [exec, Option.map_eq_some_iff] at hs ⊢
    obtain ⟨q, h1, h2⟩ := hs
    exact ⟨q, runOps_le hE _ h1, h2⟩
  | draw ops chk ach =>
    intro fr h r hs
    simp only [exec] at hs ⊢
    split at hs
    · cases hs
    · rename_i q hq
      rw [runOps_le hE _ hq]
      simp only
      split at hs
      · rename_i he; rw [if_pos he]; exact hs
      · rename_i he
        rw [if_neg he]
        split at hs
        · cases hs
        · rename_i tr ht
          rw [trace_le hE _ ht]
          exact hs
  | seq a b iha ihb =>
    intro fr h r hs
    simp only [exec] at hs ⊢
    cases ha : exec E n a fr h with
    | none => rw [ha] at hs; cases hs
    | some q =>
      rw [ha] at hs
      rw [iha ha]
      obtain ⟨x, fr', h'⟩ := q
      cases x with
      | nrm => exact ihb hs
      | ret => exact hs
      | ex id => exact hs
  | cond c a b iha ihb =>
    intro fr h r hs
    simp only [exec] at hs ⊢
    split at hs
    · exact iha hs
    · exact ihb hs
    · cases hs
  | blk id a iha =>
    intro fr h r hs
    simp only [exec] at hs ⊢
    cases ha : exec E n a fr h with
    | none => rw [ha] at hs; cases hs
    | some q => rw [ha] at hs; rw [iha ha]; exact hs
  | loop a iha =>
    intro fr h r hs
    simp only [exec] at hs ⊢
    exact iter_le (fun _ _ _ h => iha h) n m hnm hs
  | exit id => intro fr h r hs; exact hs
  | ret => intro fr h r hs; exact hs
end

/-- A machine: its oracles, its functions. -/
structure Mach where
  O : Nat → Option (List V → Heap → Option (V × Heap))
  F : Nat → Option CF

theorem call_le (O : Nat → Option (List V → Heap → Option (V × Heap))) (F : Nat → Option CF) : ∀ n m, n ≤ m → EnvLe (call O F n) (call O F m) := by
  intro n
  induction n with
  | zero => intro m _ f args h r hs; simp [call] at hs
  | succ n ih =>
    intro m hm f args h r hs
    obtain ⟨m, rfl⟩ : ∃ k, m = k + 1 := ⟨m - 1, by omega⟩
    simp only [call] at hs ⊢
    split at hs
    · rename_i g hg; exact hs
    · split at hs
      · cases hs
      · rename_i c hc
        cases he : exec (call O F n) n c.body (frame0 c.nt args) h with
        | none => rw [he] at hs; cases hs
        | some q =>
          rw [he] at hs
          rw [exec_le (ih m (by omega)) (by omega) _ he]
          exact hs

/-! ### Calls and code, at some fuel -/
/-- A call comes to this. -/
def To (M : Mach) (f : Nat) (args : List V) (h : Heap) (v : V) (h' : Heap) : Prop := ∃ n, call M.O M.F n f args h = some (v, h')

def Wc (M : Mach) (c : C) (fr : List V) (h : Heap) (Q : X → List V → Heap → Prop) : Prop :=
  ∃ n x fr' h', exec (call M.O M.F n) n c fr h = some (x, fr', h') ∧ Q x fr' h'
def Wo (M : Mach) (ops : List COp) (fr : List V) (h : Heap) (Q : List V → Heap → Prop) : Prop :=
  ∃ n fr' h', runOps (call M.O M.F n) ops fr h = some (fr', h') ∧ Q fr' h'

/-- What is still to be run. -/
inductive K where
  | ops (l : List COp)
  | dops (all : List COp) (chk ach : List (Nat × List Nat)) (acc : List (List V × Heap)) (l : List COp)
  | code (c : C)
  | pop (id : Nat)
  | again (c : C)

/-- What is still to be run, behind an outcome, comes to what is asked. -/
def Un (M : Mach) : List K → X → List V → Heap → (X → List V → Heap → Prop) → Prop
  | [], x, fr, h, Q => Q x fr h
  | .ops l :: k, .nrm, fr, h, Q => Wo M l fr h fun fr' h' => Un M k .nrm fr' h' Q
  | .dops all chk ach acc l :: k, .nrm, fr, h, Q => ∃ n fr' h' tr, runOps (call M.O M.F n) l fr h = some (fr', h') ∧ trace (call M.O M.F n) l fr h = some tr ∧ (chk.all (chkOne all (acc.reverse ++ tr)) && ach.all (achOne all (acc.reverse ++ tr))) = true ∧ Un M k .nrm fr' h' Q
  | .code c :: k, .nrm, fr, h, Q => Wc M c fr h fun x fr' h' => Un M k x fr' h' Q
  | .pop _ :: k, .nrm, fr, h, Q => Un M k .nrm fr h Q
  | .pop id :: k, .ex j, fr, h, Q => if j = id then Un M k .nrm fr h Q else Un M k (.ex j) fr h Q
  | .again c :: k, .nrm, fr, h, Q => Wc M (.loop c) fr h fun x fr' h' => Un M k x fr' h' Q
  | _ :: k, x, fr, h, Q => Un M k x fr h Q

section
variable {M : Mach} {k : List K} {fr : List V} {h : Heap} {Q : X → List V → Heap → Prop}

theorem Wc.mono {c : C} {Q' : X → List V → Heap → Prop} (hw : Wc M c fr h Q) (hq : ∀ x fr' h', Q x fr' h' → Q' x fr' h') : Wc M c fr h Q' := by
  obtain ⟨n, x, fr', h', h1, h2⟩ := hw
  exact ⟨n, x, fr', h', h1, hq _ _ _ h2⟩

theorem Un_seq (a b : C) : Un M (.code (.seq a b) :: k) .nrm fr h Q = Un M (.code a :: .code b :: k) .nrm fr h Q := by
  apply propext
  simp only [Un]
  constructor
  · rintro ⟨n, x, fr', h', h1, h2⟩
    simp only [exec] at h1
    cases ha : exec (call M.O M.F n) n a fr h with
    | none => rw [ha] at h1; cases h1
    | some q =>
      rw [ha] at h1
      obtain ⟨y, fr1, hh1⟩ := q
      refine ⟨n, y, fr1, hh1, ha, ?_⟩
      cases y with
      | nrm => exact ⟨n, x, fr', h', h1, h2⟩
      | ret => obtain ⟨rfl, rfl, rfl⟩ := (show _ ∧ _ ∧ _ by simpa using h1); exact h2
      | ex id => obtain ⟨rfl, rfl, rfl⟩ := (show _ ∧ _ ∧ _ by simpa using h1); exact h2
  · rintro ⟨n, y, fr1, hh1, ha, h2⟩
    cases y with
    | nrm =>
      obtain ⟨m, x, fr', h', hb, hQ⟩ := h2
      refine ⟨max n m, x, fr', h', ?_, hQ⟩
      simp only [exec]
      rw [exec_le (call_le _ _ n (max n m) (Nat.le_max_left _ _)) (Nat.le_max_left _ _) _ ha]
      exact exec_le (call_le _ _ m (max n m) (Nat.le_max_right _ _)) (Nat.le_max_right _ _) _ hb
    | ret => exact ⟨n, .ret, fr1, hh1, by simp only [exec]; rw [ha], h2⟩
    | ex id => exact ⟨n, .ex id, fr1, hh1, by simp only [exec]; rw [ha], h2⟩

theorem Un_skip : Un M (.code .skip :: k) .nrm fr h Q = Un M k .nrm fr h Q := by
  apply propext
  simp only [Un, Wc, exec]
  constructor
  · rintro ⟨n, x, fr', h', h1, h2⟩; obtain ⟨rfl, rfl, rfl⟩ := (show _ ∧ _ ∧ _ by simpa using h1); exact h2
  · intro h2; exact ⟨0, _, _, _, rfl, h2⟩
theorem Un_exit (id : Nat) : Un M (.code (.exit id) :: k) .nrm fr h Q = Un M k (.ex id) fr h Q := by
  apply propext
  simp only [Un, Wc, exec]
  constructor
  · rintro ⟨n, x, fr', h', h1, h2⟩; obtain ⟨rfl, rfl, rfl⟩ := (show _ ∧ _ ∧ _ by simpa using h1); exact h2
  · intro h2; exact ⟨0, _, _, _, rfl, h2⟩
theorem Un_retc : Un M (.code .ret :: k) .nrm fr h Q = Un M k .ret fr h Q := by
  apply propext
  simp only [Un, Wc, exec]
  constructor
  · rintro ⟨n, x, fr', h', h1, h2⟩; obtain ⟨rfl, rfl, rfl⟩ := (show _ ∧ _ ∧ _ by simpa using h1); exact h2
  · intro h2; exact ⟨0, _, _, _, rfl, h2⟩
theorem Un_reg (ops : List COp) : Un M (.code (.reg ops) :: k) .nrm fr h Q = Un M (.ops ops :: k) .nrm fr h Q := by
  apply propext
  simp only [Un, Wc, Wo, exec]
  constructor
  · rintro ⟨n, x, fr', h', h1, h2⟩
    simp only [Option.map_eq_some_iff] at h1
    obtain ⟨q, h3, h4⟩ := h1
    obtain ⟨rfl, rfl, rfl⟩ := (show _ ∧ _ ∧ _ by simpa using h4)
    exact ⟨n, _, _, h3, h2⟩
  · rintro ⟨n, fr', h', h1, h2⟩
    exact ⟨n, _, _, _, by rw [h1]; rfl, h2⟩

theorem Un_draw (ops : List COp) (chk ach : List (Nat × List Nat)) : Un M (.code (.draw ops chk ach) :: k) .nrm fr h Q = Un M (.dops ops chk ach [] ops :: k) .nrm fr h Q := by
  apply propext
  simp only [Un, Wc, exec, List.reverse_nil, List.nil_append]
  constructor
  · rintro ⟨n, x, fr', h', h1, h2⟩
    split at h1
    · cases h1
    · rename_i r hr
      have ht : ∃ tr, trace (call M.O M.F n) ops fr h = some tr := by
        have gen : ∀ (l : List COp) (fr : List V) (h : Heap) r, runOps (call M.O M.F n) l fr h = some r → ∃ tr, trace (call M.O M.F n) l fr h = some tr := by
          intro l
          induction l with
          | nil => intro fr h r _; exact ⟨_, rfl⟩
          | cons o l ih =>
            intro fr h r hs
            simp only [runOps] at hs
            split at hs
            · rename_i v h' hst
              obtain ⟨t, ht⟩ := ih _ _ _ hs
              exact ⟨_, by simp only [trace, hst, ht]; rfl⟩
            · cases hs
        exact gen _ _ _ _ hr
      obtain ⟨tr, ht⟩ := ht
      split at h1
      · rename_i he
        obtain ⟨rfl, rfl, rfl⟩ := (show _ ∧ _ ∧ _ by simpa using h1)
        simp only [Bool.and_eq_true, List.isEmpty_iff] at he
        obtain ⟨rfl, rfl⟩ := he
        exact ⟨n, _, _, tr, hr, ht, rfl, h2⟩
      · rw [ht] at h1
        simp only at h1
        split at h1
        · rename_i hc
          obtain ⟨rfl, rfl, rfl⟩ := (show _ ∧ _ ∧ _ by simpa using h1)
          exact ⟨n, _, _, tr, hr, ht, hc, h2⟩
        · cases h1
  · rintro ⟨n, fr', h', tr, hr, ht, hc, h2⟩
    refine ⟨n, .nrm, fr', h', ?_, h2⟩
    rw [hr]
    simp only
    split
    · rfl
    · rw [ht]; simp only [hc, if_true]
theorem Un_dops_nil (all : List COp) (chk ach : List (Nat × List Nat)) (acc : List (List V × Heap)) : Un M (.dops all chk ach acc [] :: k) .nrm fr h Q = ((chk.all (chkOne all (acc.reverse ++ [(fr, h)])) && ach.all (achOne all (acc.reverse ++ [(fr, h)]))) = true ∧ Un M k .nrm fr h Q) := by
  apply propext
  simp only [Un, runOps, trace]
  constructor
  · rintro ⟨n, fr', h', tr, h1, h2, h3, h4⟩
    obtain ⟨rfl, rfl⟩ := (show _ ∧ _ by simpa using h1)
    injection h2 with h2
    subst h2
    exact ⟨h3, h4⟩
  · rintro ⟨h3, h4⟩
    exact ⟨0, _, _, _, rfl, rfl, h3, h4⟩
theorem Un_dops_cons (all : List COp) (chk ach : List (Nat × List Nat)) (acc : List (List V × Heap)) (o : COp) (r : List COp) : Un M (.dops all chk ach acc (o :: r) :: k) .nrm fr h Q =
    ∃ n v h1, stepS (call M.O M.F n) o fr h = some (v, h1) ∧ Un M (.dops all chk ach ((fr, h) :: acc) r :: k) .nrm (put fr o.dst v) h1 Q := by
  apply propext
  simp only [Un]
  constructor
  · rintro ⟨n, fr', h', tr, h1, h2, h3, h4⟩
    simp only [runOps] at h1
    simp only [trace] at h2
    split at h1
    · rename_i v hh hs
      rw [hs] at h2
      simp only [Option.map_eq_some_iff] at h2
      obtain ⟨t, ht, rfl⟩ := h2
      exact ⟨n, v, hh, hs, n, fr', h', t, h1, ht, by simpa using h3, h4⟩
    · cases h1
  · rintro ⟨n, v, hh, hs, m, fr', h', t, h1, ht, h3, h4⟩
    refine ⟨max n m, fr', h', (fr, h) :: t, ?_, ?_, by simpa using h3, h4⟩
    · simp only [runOps]
      rw [stepS_le (call_le M.O M.F n (max n m) (Nat.le_max_left _ _)) hs]
      exact runOps_le (call_le M.O M.F m (max n m) (Nat.le_max_right _ _)) _ h1
    · simp only [trace]
      rw [stepS_le (call_le M.O M.F n (max n m) (Nat.le_max_left _ _)) hs]
      simp only [Option.map_eq_some_iff]
      exact ⟨t, trace_le (call_le M.O M.F m (max n m) (Nat.le_max_right _ _)) _ ht, rfl⟩
theorem Un_ops_cons (o : COp) (r : List COp) : Un M (.ops (o :: r) :: k) .nrm fr h Q =
    ∃ n v h1, stepS (call M.O M.F n) o fr h = some (v, h1) ∧ Un M (.ops r :: k) .nrm (put fr o.dst v) h1 Q := by
  apply propext
  simp only [Un, Wo]
  constructor
  · rintro ⟨n, fr', h', h1, h4⟩
    simp only [runOps] at h1
    split at h1
    · rename_i v hh hs
      exact ⟨n, v, hh, hs, n, fr', h', h1, h4⟩
    · cases h1
  · rintro ⟨n, v, hh, hs, m, fr', h', h1, h4⟩
    refine ⟨max n m, fr', h', ?_, h4⟩
    simp only [runOps]
    rw [stepS_le (call_le M.O M.F n (max n m) (Nat.le_max_left _ _)) hs]
    exact runOps_le (call_le M.O M.F m (max n m) (Nat.le_max_right _ _)) _ h1

/-- A drawn region without looks is a region. -/
theorem Un_draw0 (ops : List COp) : Un M (.code (.draw ops [] []) :: k) .nrm fr h Q = Un M (.ops ops :: k) .nrm fr h Q := by
  apply propext
  simp only [Un, Wc, Wo, exec]
  constructor
  · rintro ⟨n, x, fr', h', h1, h2⟩
    split at h1
    · cases h1
    · rename_i r hr
      obtain ⟨rfl, rfl, rfl⟩ := (show _ ∧ _ ∧ _ by simpa using h1)
      exact ⟨n, _, _, hr, h2⟩
  · rintro ⟨n, fr', h', h1, h2⟩
    exact ⟨n, .nrm, _, _, by rw [h1]; simp, h2⟩
/-- A branch: what is run waits till it is known which. -/
def Br (M : Mach) (c : V) (a b : C) (k : List K) (fr : List V) (h : Heap) (Q : X → List V → Heap → Prop) : Prop :=
  match c with | .b true => Un M (.code a :: k) .nrm fr h Q | .b false => Un M (.code b :: k) .nrm fr h Q | _ => False
theorem Br_t (a b : C) : Br M (.b true) a b k fr h Q = Un M (.code a :: k) .nrm fr h Q := rfl
theorem Br_f (a b : C) : Br M (.b false) a b k fr h Q = Un M (.code b :: k) .nrm fr h Q := rfl
theorem Br_split {x : Bool} {a b : C} (hp : x = true → Un M (.code a :: k) .nrm fr h Q) (hq : x = false → Un M (.code b :: k) .nrm fr h Q) : Br M (.b x) a b k fr h Q := by
  cases x
  · exact hq rfl
  · exact hp rfl
/-- A guard's branch: with the step, or past it. -/
def Gd (M : Mach) (c : Bool) (k1 k2 : List K) (d : Option Nat) (fr : List V) (h : Heap) (Q : X → List V → Heap → Prop) : Prop :=
  if c = true then Un M k1 .nrm fr h Q else Un M k2 .nrm (put fr d un) h Q
theorem Gd_t (k1 k2 : List K) (d : Option Nat) : Gd M true k1 k2 d fr h Q = Un M k1 .nrm fr h Q := by simp [Gd]
theorem Gd_f (k1 k2 : List K) (d : Option Nat) : Gd M false k1 k2 d fr h Q = Un M k2 .nrm (put fr d un) h Q := by simp [Gd]
theorem Gd_split {x : Bool} {k1 k2 : List K} {d : Option Nat} (hp : x = true → Un M k1 .nrm fr h Q) (hq : x = false → Un M k2 .nrm (put fr d un) h Q) : Gd M x k1 k2 d fr h Q := by
  cases x
  · rw [Gd_f]; exact hq rfl
  · rw [Gd_t]; exact hp rfl
theorem Gd_splitN {x : Bool} {k1 k2 : List K} {d : Option Nat} (hp : x = false → Un M k1 .nrm fr h Q) (hq : x = true → Un M k2 .nrm (put fr d un) h Q) : Gd M (!x) k1 k2 d fr h Q := by
  cases x
  · exact (Gd_t k1 k2 d).mpr (hp rfl)
  · exact (Gd_f k1 k2 d).mpr (hq rfl)
theorem Br_splitN {x : Bool} {a b : C} (hp : x = false → Un M (.code a :: k) .nrm fr h Q) (hq : x = true → Un M (.code b :: k) .nrm fr h Q) : Br M (.b (!x)) a b k fr h Q := by
  cases x
  · exact hp rfl
  · exact hq rfl
theorem Un_cond (c : Opd) (a b : C) : Un M (.code (.cond c a b) :: k) .nrm fr h Q = Br M (ev fr c) a b k fr h Q := by
  simp only [Un, Wc, exec]
  generalize ev fr c = z
  cases z <;> simp [Br]
  rename_i x
  cases x <;> rfl
theorem Un_blk (id : Nat) (a : C) : Un M (.code (.blk id a) :: k) .nrm fr h Q = Un M (.code a :: .pop id :: k) .nrm fr h Q := by
  apply propext
  simp only [Un, Wc, exec]
  constructor
  · rintro ⟨n, x, fr', h', h1, h2⟩
    cases ha : exec (call M.O M.F n) n a fr h with
    | none => rw [ha] at h1; cases h1
    | some q =>
      rw [ha] at h1
      obtain ⟨y, fr1, hh1⟩ := q
      refine ⟨n, y, fr1, hh1, ha, ?_⟩
      cases y with
      | nrm => obtain ⟨rfl, rfl, rfl⟩ := (show _ ∧ _ ∧ _ by simpa using h1); exact h2
      | ret => obtain ⟨rfl, rfl, rfl⟩ := (show _ ∧ _ ∧ _ by simpa using h1); exact h2
      | ex j =>
        simp only [Un]
        simp only at h1
        split at h1
        · rename_i e; rw [if_pos e]; obtain ⟨rfl, rfl, rfl⟩ := (show _ ∧ _ ∧ _ by simpa using h1); exact h2
        · rename_i e; rw [if_neg e]; obtain ⟨rfl, rfl, rfl⟩ := (show _ ∧ _ ∧ _ by simpa using h1); exact h2
  · rintro ⟨n, y, fr1, hh1, ha, h2⟩
    refine ⟨n, ?_⟩
    rw [ha]
    cases y with
    | nrm => exact ⟨_, _, _, rfl, h2⟩
    | ret => exact ⟨_, _, _, rfl, h2⟩
    | ex j =>
      simp only [Un] at h2
      simp only
      split at h2
      · rename_i e; rw [if_pos e]; exact ⟨_, _, _, rfl, h2⟩
      · rename_i e; rw [if_neg e]; exact ⟨_, _, _, rfl, h2⟩
theorem Un_loop (a : C) : Un M (.code (.loop a) :: k) .nrm fr h Q = Un M (.code a :: .again a :: k) .nrm fr h Q := by
  apply propext
  simp only [Un]
  constructor
  · rintro ⟨n, x, fr', h', h1, h2⟩
    simp only [exec] at h1
    cases n with
    | zero => simp [iter] at h1
    | succ n =>
      simp only [iter] at h1
      cases ha : exec (call M.O M.F (n + 1)) (n + 1) a fr h with
      | none => rw [ha] at h1; cases h1
      | some q =>
        rw [ha] at h1
        obtain ⟨y, fr1, hh1⟩ := q
        refine ⟨n + 1, y, fr1, hh1, ha, ?_⟩
        cases y with
        | nrm => exact ⟨n + 1, x, fr', h', iter_le (fun _ _ _ e => e) n (n + 1) (by omega) h1, h2⟩
        | ret => obtain ⟨rfl, rfl, rfl⟩ := (show _ ∧ _ ∧ _ by simpa using h1); exact h2
        | ex j => obtain ⟨rfl, rfl, rfl⟩ := (show _ ∧ _ ∧ _ by simpa using h1); exact h2
  · rintro ⟨n, y, fr1, hh1, ha, h2⟩
    have up : ∀ m, exec (call M.O M.F (n + m + 1)) (n + m + 1) a fr h = some (y, fr1, hh1) := fun m => exec_le (call_le _ _ n _ (by omega)) (by omega) _ ha
    cases y with
    | nrm =>
      obtain ⟨m, x, fr', h', hb, hQ⟩ := h2
      refine ⟨n + m + 1, x, fr', h', ?_, hQ⟩
      simp only [exec, iter]
      rw [up m]
      simp only [exec] at hb
      exact iter_le (fun _ _ _ e => exec_le (call_le _ _ m _ (by omega)) (by omega) _ e) m (n + m) (by omega) hb
    | ret => refine ⟨n + 0 + 1, .ret, fr1, hh1, ?_, h2⟩; simp only [exec, iter]; rw [up 0]
    | ex j => refine ⟨n + 0 + 1, .ex j, fr1, hh1, ?_, h2⟩; simp only [exec, iter]; rw [up 0]

theorem Un_again (a : C) : Un M (.again a :: k) .nrm fr h Q = Un M (.code (.loop a) :: k) .nrm fr h Q := rfl
theorem Un_ops_nil : Un M (.ops [] :: k) .nrm fr h Q = Un M k .nrm fr h Q := by
  apply propext
  simp only [Un, Wo, runOps]
  constructor
  · rintro ⟨n, fr', h', h1, h2⟩; obtain ⟨rfl, rfl⟩ := (show _ ∧ _ by simpa using h1); exact h2
  · intro h2; exact ⟨0, _, _, rfl, h2⟩

/-- One operation's outcome, then the rest. -/
def Po (M : Mach) (x : Option (V × Heap)) (d : Option Nat) (k : List K) (fr : List V) (Q : X → List V → Heap → Prop) : Prop :=
  match x with
  | some (v, h1) => Un M k .nrm (put fr d v) h1 Q
  | none => False
/-- A call's outcome, then the rest. -/
def Pc (M : Mach) (f : Nat) (args : List V) (h : Heap) (d : Option Nat) (k : List K) (fr : List V) (Q : X → List V → Heap → Prop) : Prop :=
  ∃ v h1, To M f args h v h1 ∧ Un M k .nrm (put fr d v) h1 Q
/-- A call by a value. -/
def Pv (M : Mach) (x : V) (args : List V) (h : Heap) (d : Option Nat) (k : List K) (fr : List V) (Q : X → List V → Heap → Prop) : Prop :=
  match x with
  | .f f cs => Pc M f (args ++ cs) h d k fr Q
  | _ => False

theorem Po_congr {x x' : Option (V × Heap)} {d : Option Nat} (hx : x = x') : Po M x d k fr Q = Po M x' d k fr Q := by rw [hx]
theorem Pc_congr {f : Nat} {args args' : List V} {h h' : Heap} {d : Option Nat} (ha : args = args') (hh : h = h') : Pc M f args h d k fr Q = Pc M f args' h' d k fr Q := by rw [ha, hh]
theorem Pv_congr {x x' : V} {args args' : List V} {h h' : Heap} {d : Option Nat} (hx : x = x') (ha : args = args') (hh : h = h') : Pv M x args h d k fr Q = Pv M x' args' h' d k fr Q := by rw [hx, ha, hh]
attribute [congr] Po_congr Pc_congr Pv_congr
theorem Po_some (v : V) (h1 : Heap) (d : Option Nat) : Po M (some (v, h1)) d k fr Q = Un M k .nrm (put fr d v) h1 Q := rfl
theorem Pv_f (f : Nat) (cs args : List V) (d : Option Nat) : Pv M (.f f cs) args h d k fr Q = Pc M f (args ++ cs) h d k fr Q := rfl

theorem To.det {f : Nat} {args : List V} {v v' : V} {h1 h2 : Heap} (a : To M f args h v h1) (b : To M f args h v' h2) : v = v' ∧ h1 = h2 := by
  obtain ⟨n, a⟩ := a
  obtain ⟨m, b⟩ := b
  have a' := call_le M.O M.F n (max n m) (Nat.le_max_left _ _) _ _ _ _ a
  have b' := call_le M.O M.F m (max n m) (Nat.le_max_right _ _) _ _ _ _ b
  rw [a'] at b'
  simpa using b'

theorem Pc_to {f : Nat} {args : List V} {v : V} {h1 : Heap} (ht : To M f args h v h1) (d : Option Nat) : Pc M f args h d k fr Q = Un M k .nrm (put fr d v) h1 Q := by
  apply propext
  constructor
  · rintro ⟨v', h', a, b⟩
    obtain ⟨rfl, rfl⟩ := a.det ht
    exact b
  · intro b; exact ⟨_, _, ht, b⟩

theorem Po_step (d : Option Nat) (o : AOp) : (∃ n v h1, stepS (call M.O M.F n) ⟨d, .op o, none⟩ fr h = some (v, h1) ∧ Un M k .nrm (put fr d v) h1 Q) = Po M (opS o fr h) d k fr Q := by
  simp only [stepS, wants, actS, if_true, Po]
  cases hx : opS o fr h with
  | none => simp
  | some q =>
    obtain ⟨v, h1⟩ := q
    apply propext
    constructor
    · rintro ⟨n, v', h', e, hu⟩; obtain ⟨rfl, rfl⟩ := (show _ ∧ _ by simpa using e); exact hu
    · intro hu; exact ⟨0, v, h1, rfl, hu⟩
theorem Pc_step (d : Option Nat) (f : Nat) (xs : List Opd) : (∃ n v h1, stepS (call M.O M.F n) ⟨d, .callf f xs, none⟩ fr h = some (v, h1) ∧ Un M k .nrm (put fr d v) h1 Q) = Pc M f (xs.map (ev fr)) h d k fr Q := by
  simp only [stepS, wants, actS, if_true, Pc, To]
  apply propext
  constructor
  · rintro ⟨n, v, h1, e, hu⟩; exact ⟨v, h1, ⟨n, e⟩, hu⟩
  · rintro ⟨v, h1, ⟨n, e⟩, hu⟩; exact ⟨n, v, h1, e, hu⟩
theorem Pv_step (d : Option Nat) (x : Opd) (xs : List Opd) : (∃ n v h1, stepS (call M.O M.F n) ⟨d, .callv x xs, none⟩ fr h = some (v, h1) ∧ Un M k .nrm (put fr d v) h1 Q) = Pv M (ev fr x) (xs.map (ev fr)) h d k fr Q := by
  simp only [stepS, wants, actS, if_true, Pv]
  generalize ev fr x = z
  cases z <;> simp
  simp only [Pc, To]
  constructor
  · rintro ⟨n, v, h1, e, hu⟩; exact ⟨v, h1, ⟨n, e⟩, hu⟩
  · rintro ⟨v, h1, ⟨n, e⟩, hu⟩; exact ⟨n, v, h1, e, hu⟩
theorem Un_op (d : Option Nat) (o : AOp) (r : List COp) : Un M (.ops (⟨d, .op o, none⟩ :: r) :: k) .nrm fr h Q = Po M (opS o fr h) d (.ops r :: k) fr Q := by
  rw [Un_ops_cons]; exact Po_step d o
theorem Un_callf (d : Option Nat) (f : Nat) (xs : List Opd) (r : List COp) : Un M (.ops (⟨d, .callf f xs, none⟩ :: r) :: k) .nrm fr h Q = Pc M f (xs.map (ev fr)) h d (.ops r :: k) fr Q := by
  rw [Un_ops_cons]; exact Pc_step d f xs
theorem Un_callv (d : Option Nat) (x : Opd) (xs : List Opd) (r : List COp) : Un M (.ops (⟨d, .callv x xs, none⟩ :: r) :: k) .nrm fr h Q = Pv M (ev fr x) (xs.map (ev fr)) h d (.ops r :: k) fr Q := by
  rw [Un_ops_cons]; exact Pv_step d x xs
section
variable {all : List COp} {chk ach : List (Nat × List Nat)} {acc : List (List V × Heap)}
theorem Un_opD (d : Option Nat) (o : AOp) (r : List COp) : Un M (.dops all chk ach acc (⟨d, .op o, none⟩ :: r) :: k) .nrm fr h Q = Po M (opS o fr h) d (.dops all chk ach ((fr, h) :: acc) r :: k) fr Q := by
  rw [Un_dops_cons]; exact Po_step d o
theorem Un_callfD (d : Option Nat) (f : Nat) (xs : List Opd) (r : List COp) : Un M (.dops all chk ach acc (⟨d, .callf f xs, none⟩ :: r) :: k) .nrm fr h Q = Pc M f (xs.map (ev fr)) h d (.dops all chk ach ((fr, h) :: acc) r :: k) fr Q := by
  rw [Un_dops_cons]; exact Pc_step d f xs
theorem Un_callvD (d : Option Nat) (x : Opd) (xs : List Opd) (r : List COp) : Un M (.dops all chk ach acc (⟨d, .callv x xs, none⟩ :: r) :: k) .nrm fr h Q = Pv M (ev fr x) (xs.map (ev fr)) h d (.dops all chk ach ((fr, h) :: acc) r :: k) fr Q := by
  rw [Un_dops_cons]; exact Pv_step d x xs
theorem Un_guardD (d : Option Nat) (a : Act') (t : Nat) (w : Bool) (r : List COp) : Un M (.dops all chk ach acc (⟨d, a, some (t, w)⟩ :: r) :: k) .nrm fr h Q =
    Gd M (wants fr (some (t, w))) (.dops all chk ach acc (⟨d, a, none⟩ :: r) :: k) (.dops all chk ach ((fr, h) :: acc) r :: k) d fr h Q := by
  unfold Gd
  rw [Un_dops_cons, Un_dops_cons]
  split
  · rename_i hw
    simp only [stepS, if_pos hw, if_pos (show wants fr none = true from rfl)]
  · rename_i hw
    simp only [stepS, if_neg hw]
    apply propext
    constructor
    · rintro ⟨n, v, h1, e, hu⟩; obtain ⟨rfl, rfl⟩ := (show _ ∧ _ by simpa using e); exact hu
    · intro hu; exact ⟨0, _, _, rfl, hu⟩
end
/-- A step under a guard. -/
theorem Un_guard (d : Option Nat) (a : Act') (t : Nat) (w : Bool) (r : List COp) : Un M (.ops (⟨d, a, some (t, w)⟩ :: r) :: k) .nrm fr h Q =
    Gd M (wants fr (some (t, w))) (.ops (⟨d, a, none⟩ :: r) :: k) (.ops r :: k) d fr h Q := by
  unfold Gd
  rw [Un_ops_cons, Un_ops_cons]
  split
  · rename_i hw
    simp only [stepS, if_pos hw, if_pos (show wants fr none = true from rfl)]
  · rename_i hw
    simp only [stepS, if_neg hw]
    apply propext
    constructor
    · rintro ⟨n, v, h1, e, hu⟩; obtain ⟨rfl, rfl⟩ := (show _ ∧ _ by simpa using e); exact hu
    · intro hu; exact ⟨0, _, _, rfl, hu⟩

/-! ### What a row of steps does to what is still to be run -/
theorem Un_pop_nrm (id : Nat) : Un M (.pop id :: k) .nrm fr h Q = Un M k .nrm fr h Q := rfl
theorem Un_pop_ex (id j : Nat) : Un M (.pop id :: k) (.ex j) fr h Q = if j = id then Un M k .nrm fr h Q else Un M k (.ex j) fr h Q := rfl
theorem Un_pop_ret (id : Nat) : Un M (.pop id :: k) .ret fr h Q = Un M k .ret fr h Q := rfl
theorem Un_code_ex (c : C) (j : Nat) : Un M (.code c :: k) (.ex j) fr h Q = Un M k (.ex j) fr h Q := rfl
theorem Un_code_ret (c : C) : Un M (.code c :: k) .ret fr h Q = Un M k .ret fr h Q := rfl
theorem Un_again_ex (c : C) (j : Nat) : Un M (.again c :: k) (.ex j) fr h Q = Un M k (.ex j) fr h Q := rfl
theorem Un_again_ret (c : C) : Un M (.again c :: k) .ret fr h Q = Un M k .ret fr h Q := rfl
theorem Un_nil (x : X) : Un M [] x fr h Q = Q x fr h := rfl
end

/-! ### Frames as functions -/
def up (g : Nat → V) (d : Nat) (v : V) : Nat → V := fun j => if j = d then v else g j
def frL (n : Nat) (g : Nat → V) : List V := (List.range n).map g
theorem up_same (g : Nat → V) (d : Nat) (v : V) : up g d v d = v := by simp [up]
theorem up_ne {j d : Nat} (hne : j ≠ d) (g : Nat → V) (v : V) : up g d v j = g j := by simp [up, hne]
theorem frL_get {n t : Nat} (ht : t < n) (g : Nat → V) : (frL n g).getD t un = g t := by
  simp [frL, List.getD_eq_getElem?_getD, List.getElem?_map, List.getElem?_range, ht]
theorem ev_tm {n t : Nat} (ht : t < n) (g : Nat → V) : ev (frL n g) (.tm t) = g t := frL_get ht g
theorem ev_k (fr : List V) (v : V) : ev fr (.k v) = v := rfl
theorem ev_fn (fr : List V) (f : Nat) : ev fr (.fn f) = .f f [] := rfl
theorem ev_gl (fr : List V) (g : Nat) : ev fr (.gl g) = .p (some (g, 0)) := rfl
theorem put_none (fr : List V) (v : V) : put fr none v = fr := rfl
theorem put_some (n d : Nat) (g : Nat → V) (v : V) : put (frL n g) (some d) v = frL n (up g d v) := by
  apply List.ext_getElem?
  intro i
  simp only [put, frL, List.getElem?_set, List.length_map, List.length_range, List.getElem?_map, List.getElem?_range]
  by_cases e : d = i
  · subst e
    by_cases hl : d < n
    · simp [hl, up]
    · simp [hl]
  · by_cases hl : i < n
    · simp [e, hl, up]
      intro c; exact absurd c.symm e
    · simp [e, hl]
def ar (l : List V) : Nat → V := fun j => l.getD j un
theorem ar_zero (a : V) (l : List V) : ar (a :: l) 0 = a := rfl
theorem ar_succ (a : V) (l : List V) (n : Nat) : ar (a :: l) (n + 1) = ar l n := by simp [ar]
theorem ar_nil (n : Nat) : ar [] n = un := by simp [ar]
theorem frame0_eq {n : Nat} {l : List V} (hl : l.length ≤ n) : frame0 n l = frL n (ar l) := by
  apply List.ext_getElem?
  intro i
  simp only [frame0, frL, ar, List.getElem?_map, List.getElem?_range]
  by_cases h1 : i < l.length
  · rw [List.getElem?_append_left h1]
    simp [List.getElem?_range, show i < n by omega, h1, ar, List.getD_eq_getElem?_getD]
  · rw [List.getElem?_append_right (by omega)]
    by_cases h2 : i < n
    · simp [List.getElem?_replicate, List.getElem?_range, h2, show i - l.length < n - l.length by omega, ar, List.getD_eq_getElem?_getD, List.getElem?_eq_none (show l.length ≤ i by omega)]
    · simp [List.getElem?_replicate, List.getElem?_range, h2, show ¬ i - l.length < n - l.length by omega]
theorem wants_none (fr : List V) : wants fr none = true := rfl
def wt (v : V) (w : Bool) : Bool := match v with | .b x => x == w | _ => false
theorem wt_un (w : Bool) : wt un w = false := rfl
theorem wt_t (x : Bool) : wt (.b x) true = x := by cases x <;> rfl
theorem wt_f (x : Bool) : wt (.b x) false = !x := by cases x <;> rfl
theorem wants_some {n t : Nat} (ht : t < n) (g : Nat → V) (w : Bool) : wants (frL n g) (some (t, w)) = wt (g t) w := by
  have hg := frL_get ht g
  have : (frL n g)[t]? = some (g t) := by simp [frL, List.getElem?_map, List.getElem?_range, ht]
  simp only [wants, this, wt]
  cases g t <;> rfl

/-! ### A call, by its function's body -/
theorem To_body {M : Mach} {f : Nat} {c : CF} (hO : M.O f = none) (hF : M.F f = some c) {args : List V} {h h' : Heap} {v : V} (hl : args.length ≤ c.nt)
    (hw : Un M [.code c.body] .nrm (frL c.nt (ar args)) h (fun x fr h1 => (x = .nrm ∨ x = .ret) ∧ resV fr h1 c.res = some v ∧ h1 = h')) : To M f args h v h' := by
  obtain ⟨n, x, fr, h1, he, hx, hv, rfl⟩ := hw
  refine ⟨n + 1, ?_⟩
  simp only [call, hO, hF]
  rw [frame0_eq hl, he]
  rcases hx with rfl | rfl <;> simp [hv]
/-- .. where what it leaves is not said yet. -/
theorem To_body' {M : Mach} {f : Nat} {c : CF} (hO : M.O f = none) (hF : M.F f = some c) {args : List V} {h : Heap} (hl : args.length ≤ c.nt) {R : V → Heap → Prop}
    (hw : Un M [.code c.body] .nrm (frL c.nt (ar args)) h (fun x fr h1 => (x = .nrm ∨ x = .ret) ∧ ∃ v, resV fr h1 c.res = some v ∧ R v h1)) : ∃ v h', To M f args h v h' ∧ R v h' := by
  obtain ⟨n, x, fr, h1, he, hx, v, hv, hR⟩ := hw
  refine ⟨v, h1, ⟨n + 1, ?_⟩, hR⟩
  simp only [call, hO, hF]
  rw [frame0_eq hl, he]
  rcases hx with rfl | rfl <;> simp [hv]
/-- A call, walked in place. -/
theorem Pc_inl {M : Mach} {f : Nat} {c : CF} (hO : M.O f = none) (hF : M.F f = some c) {args : List V} (hl : args.length ≤ c.nt) {h : Heap} {d : Option Nat} {k : List K} {fr : List V} {Q : X → List V → Heap → Prop} :
    Pc M f args h d k fr Q = Un M [.code c.body] .nrm (frL c.nt (ar args)) h (fun x fr' h' => (x = .nrm ∨ x = .ret) ∧ ∃ v, resV fr' h' c.res = some v ∧ Un M k .nrm (put fr d v) h' Q) := by
  apply propext
  constructor
  · rintro ⟨v, h1, ⟨n, ht⟩, hu⟩
    cases n with
    | zero => simp [call] at ht
    | succ n =>
      simp only [call, hO, hF] at ht
      rw [frame0_eq hl] at ht
      cases he : exec (call M.O M.F n) n c.body (frL c.nt (ar args)) h with
      | none => rw [he] at ht; cases ht
      | some q =>
        obtain ⟨x, fr', h'⟩ := q
        rw [he] at ht
        refine ⟨n, x, fr', h', he, ?_⟩
        cases x with
        | ex j => simp at ht
        | nrm =>
          obtain ⟨v', hv, e⟩ := Option.map_eq_some_iff.1 (show (resV fr' h' c.res).map (·, h') = some (v, h1) from ht)
          injection e with e1 e2
          subst e1; subst e2
          exact ⟨.inl rfl, _, hv, hu⟩
        | ret =>
          obtain ⟨v', hv, e⟩ := Option.map_eq_some_iff.1 (show (resV fr' h' c.res).map (·, h') = some (v, h1) from ht)
          injection e with e1 e2
          subst e1; subst e2
          exact ⟨.inr rfl, _, hv, hu⟩
  · intro hw
    obtain ⟨v, h', ht, hR⟩ := To_body' hO hF hl (R := fun v h' => Un M k .nrm (put fr d v) h' Q) hw
    exact ⟨v, h', ht, hR⟩
theorem To_oracle {M : Mach} {f : Nat} {g : List V → Heap → Option (V × Heap)} (hO : M.O f = some g) {args : List V} {h h' : Heap} {v : V} (hg : g args h = some (v, h')) : To M f args h v h' :=
  ⟨1, by simp only [call, hO]; exact hg⟩

end Am
end Go.Proofs.YtcndgnddipbbgaaGreat
