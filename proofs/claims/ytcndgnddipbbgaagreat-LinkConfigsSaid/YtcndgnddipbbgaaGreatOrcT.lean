/-
  THE LIBRARY'S ANSWERS OVER TREES (the kernel walks calls whose inputs are known).
  Conditions: none.
-/
import Derived.Test.YtcndgnddipbbgaaGreatOrcL
import Derived.Test.YtcndgnddipbbgaaGreatAm14
set_option linter.unusedVariables false
set_option linter.unusedSimpArgs false
namespace Go.Proofs.YtcndgnddipbbgaaGreat
namespace Am
def oCheck' (args : List V) (h : Heap) : Option (V × Heap) :=
  match args with
  | [.p (some (id, 0))] =>
    match (h[id]? : Option Obj) with
    | some (.cells [.p q, sv] false (some t)) =>
      if t = tyB then
        (match q with
        | none => some (un, h.set id (.cells [.p (some (id, 0)), sv] false (some t)))
        | some q => if q = (id, 0) then some (un, h) else none)
      else none
    | _ => none
  | _ => none
def oString' (args : List V) (h : Heap) : Option (V × Heap) :=
  match args with
  | [.p (some (id, 0))] =>
    match (h[id]? : Option Obj) with
    | some (.cells [.p _, .sl a n _ z] false (some t)) =>
      if t = tyB then
        match a with
        | none => if n = 0 then some (.s [], h) else none
        | some (bid, off) =>
          match (h[bid]? : Option Obj) with
          | some (.cells vs false (some e)) =>
            if e = tyU8 ∧ off = 0 ∧ z = 1 ∧ bid ≠ id ∧ 0 < n ∧ n ≤ vs.length ∧ n ≤ 35184372088832 then
              match bytesOf (vs.take n) with
              | some l => if sameL (vs.take n) (bytesV l) = true then some (.s l, h.set bid .dead) else none
              | none => none
            else none
          | _ => none
      else none
    | _ => none
  | _ => none
theorem oCheck_eq (args : List V) (h : Heap) : oCheck args h = oCheck' args h := rfl
theorem oString_eq (args : List V) (h : Heap) : oString args h = oString' args h := rfl
noncomputable def oCheckT (args : List V) (h : HT) : Option (V × HT) :=
  match args with
  | [.p (some (id, 0))] =>
    match (h.get id : Option Obj) with
    | some (.cells [.p q, sv] false (some t)) =>
      if t = tyB then
        (match q with
        | none => some (un, h.set id (.cells [.p (some (id, 0)), sv] false (some t)))
        | some q => if q = (id, 0) then some (un, h) else none)
      else none
    | _ => none
  | _ => none
noncomputable def oStringT (args : List V) (h : HT) : Option (V × HT) :=
  match args with
  | [.p (some (id, 0))] =>
    match (h.get id : Option Obj) with
    | some (.cells [.p _, .sl a n _ z] false (some t)) =>
      if t = tyB then
        match a with
        | none => if n = 0 then some (.s [], h) else none
        | some (bid, off) =>
          match (h.get bid : Option Obj) with
          | some (.cells vs false (some e)) =>
            if e = tyU8 ∧ off = 0 ∧ z = 1 ∧ bid ≠ id ∧ 0 < n ∧ n ≤ vs.length ∧ n ≤ 35184372088832 then
              match bytesOf (vs.take n) with
              | some l => if sameL (vs.take n) (bytesV l) = true then some (.s l, h.set bid .dead) else none
              | none => none
            else none
          | _ => none
      else none
    | _ => none
  | _ => none
noncomputable def oRepeatT (args : List V) (h : HT) : Option (V × HT) :=
  match args with
  | [.s [b], .i .i64 n] => if 0 ≤ n ∧ n ≤ 8192 then some (.s (List.replicate n.toNat b), h) else none
  | _ => none
theorem oCheckT_ok {args : List V} {ht : HT} {h : Heap} (r : RH ht h) : RO (oCheckT args ht) (oCheck args h) := by
  intro v ht' hs
  rw [oCheck_eq]
  unfold oCheckT at hs
  unfold oCheck'
  split at hs
  · rename_i id
    rw [← r.get]
    split at hs
    · rename_i q sv t ho
      try simp only [ho]
      split at hs
      · rename_i ht1
        rw [if_pos ht1]
        split at hs
        · obtain ⟨rfl, rfl⟩ := pair_inj hs; exact ⟨_, rfl, r.set _ _⟩
        · split at hs
          · rename_i hq; simp only [if_pos hq]; obtain ⟨rfl, rfl⟩ := pair_inj hs; exact ⟨_, rfl, r⟩
          · cases hs
      · cases hs
    · cases hs
  · cases hs
theorem oStringT_ok {args : List V} {ht : HT} {h : Heap} (r : RH ht h) : RO (oStringT args ht) (oString args h) := by
  intro v ht' hs
  rw [oString_eq]
  unfold oStringT at hs
  unfold oString'
  split at hs
  · rename_i id
    simp only [← r.get]
    split at hs
    · rename_i q a n c z t ho
      try simp only [ho]
      split at hs
      · rename_i ht1
        rw [if_pos ht1]
        split at hs
        · split at hs
          · rename_i hn; simp only [if_pos hn]; obtain ⟨rfl, rfl⟩ := pair_inj hs; exact ⟨_, rfl, r⟩
          · cases hs
        · rename_i bid off
          split at hs
          · rename_i vs e hb
            try simp only [hb]
            split at hs
            · rename_i hc
              simp only [if_pos hc]
              split at hs
              · rename_i l hl
                split at hs
                · rename_i hsm; simp only [hl, if_pos hsm]; obtain ⟨rfl, rfl⟩ := pair_inj hs; exact ⟨_, rfl, r.set _ _⟩
                · cases hs
              · cases hs
            · cases hs
          · cases hs
      · cases hs
    · cases hs
  · cases hs
theorem oRepeatT_ok {args : List V} {ht : HT} {h : Heap} (r : RH ht h) : RO (oRepeatT args ht) (oRepeat args h) := by
  intro v ht' hs
  unfold oRepeatT at hs
  unfold oRepeat
  split at hs
  · split at hs
    · rename_i hc; simp only [if_pos hc]; obtain ⟨rfl, rfl⟩ := pair_inj hs; exact ⟨_, rfl, r⟩
    · cases hs
  · cases hs
noncomputable def OT (f : Nat) : List V → HT → Option (V × HT) :=
  cond (Nat.beq f n_strings_Builder_copyCheck) oCheckT (cond (Nat.beq f n_strings_Builder_String) oStringT (cond (Nat.beq f n_strings_Repeat) oRepeatT fun _ _ => none))
noncomputable def sk (f : Nat) : Bool := (O f).isSome
theorem simT (n : Nat) : Sim (callT sk OT F n) (call O F n) := by
  refine callT_ok (fun f h => ?_) (fun f h => ?_) F n
  · exact Option.isNone_iff_eq_none.1 (by unfold sk at h; rw [Option.isSome_eq_false_iff] at h; exact h)
  · obtain ⟨g, hg⟩ := Option.isSome_iff_exists.1 h
    refine ⟨g, hg, ?_⟩
    unfold O at hg
    unfold OT
    by_cases e1 : f = n_strings_Builder_copyCheck
    · subst e1; obtain rfl := Option.some.inj hg; exact fun _ _ _ r => oCheckT_ok r
    · by_cases e2 : f = n_strings_Builder_String
      · subst e2; obtain rfl := Option.some.inj hg; exact fun _ _ _ r => oStringT_ok r
      · by_cases e3 : f = n_strings_Repeat
        · subst e3; obtain rfl := Option.some.inj hg; exact fun _ _ _ r => oRepeatT_ok r
        · have hb : ∀ m, f ≠ m → Nat.beq f m = false := fun m c => by cases hc : Nat.beq f m with | false => rfl | true => exact absurd (Nat.eq_of_beq_eq_true hc) c
          rw [hb _ e1, hb _ e2, hb _ e3]
          exact fun _ _ _ _ _ _ hs => by cases hs
/-- A call over trees that comes to something is a call; some objects are looked at behind it. -/
theorem To_tree {f : Nat} {args : List V} {h : Heap} {ht : HT} {v : V} {α : Type} {p : HT → α} {x : α} (n : Nat) (r : RH ht h) (e : (callT sk OT F n f args ht).map (fun q => (q.1, p q.2)) = some (v, x)) : ∃ h' ht', To M f args h v h' ∧ RH ht' h' ∧ p ht' = x := by
  cases hc : callT sk OT F n f args ht with
  | none => rw [hc] at e; cases e
  | some q =>
    obtain ⟨w, ht'⟩ := q
    rw [hc] at e
    injection e with e
    injection e with e1 e2
    subst e1
    obtain ⟨h', hs, hr⟩ := simT n _ _ _ _ r _ _ hc
    exact ⟨h', ht', ⟨n, hs⟩, hr, e2⟩
end Am
end Go.Proofs.YtcndgnddipbbgaaGreat
