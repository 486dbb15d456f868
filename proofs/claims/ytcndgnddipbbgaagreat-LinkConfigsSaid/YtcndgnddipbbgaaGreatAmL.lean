/-
  THE ABSTRACT MACHINE, part L: whole numbers that stay as they are; rows of cells; heaps that grow.
  Conditions: none (lemmas).
-/
import Derived.Test.YtcndgnddipbbgaaGreatAmS
set_option linter.unusedVariables false
set_option linter.unusedSimpArgs false
namespace Go.Proofs.YtcndgnddipbbgaaGreat
namespace Am

theorem wrap_i64 {x : Int} (h1 : -9223372036854775808 ≤ x) (h2 : x ≤ 9223372036854775807) : IntKind.i64.wrap x = x := by
  simp only [IntKind.wrap, IntKind.signed, IntKind.bits, Bool.true_and]
  split <;> rename_i hc <;> simp at hc <;> omega
theorem wrap_u8 {x : Int} (h1 : 0 ≤ x) (h2 : x ≤ 255) : IntKind.u8.wrap x = x := by
  simp only [IntKind.wrap, IntKind.signed, IntKind.bits, Bool.false_and]
  simp; omega
theorem wrap_u32 {x : Int} (h1 : 0 ≤ x) (h2 : x ≤ 4294967295) : IntKind.u32.wrap x = x := by
  simp only [IntKind.wrap, IntKind.signed, IntKind.bits, Bool.false_and]
  simp; omega
theorem wrap_i32 {x : Int} (h1 : -2147483648 ≤ x) (h2 : x ≤ 2147483647) : IntKind.i32.wrap x = x := by
  simp only [IntKind.wrap, IntKind.signed, IntKind.bits, Bool.true_and]
  split <;> rename_i hc <;> simp at hc <;> omega
theorem wrap_u32_mod (x : Int) : IntKind.u32.wrap x = x % 4294967296 := by
  simp [IntKind.wrap, IntKind.signed, IntKind.bits]
theorem wrap_u8_mod (x : Int) : IntKind.u8.wrap x = x % 256 := by
  simp [IntKind.wrap, IntKind.signed, IntKind.bits]
theorem tmod2 (n : Nat) : (n : Int).tmod 2 = ((n % 2 : Nat) : Int) := (Int.ofNat_tmod n 2).symm
attribute [go_sem] tmod2 Int.cast_ofNat_Int
/-- A counter goes on. -/
theorem wrap_next {n : Nat} (h : n ≤ 4611686018427387904) : IntKind.i64.wrap ((n : Int) + 1) = ((n + 1 : Nat) : Int) := by
  rw [wrap_i64 (by omega) (by omega)]; omega
theorem wrap_nat {n : Nat} (h : n ≤ 4611686018427387904) : IntKind.i64.wrap (n : Int) = (n : Int) := wrap_i64 (by omega) (by omega)
theorem wrap_sub1 {n : Nat} (h : n ≤ 4611686018427387904) : IntKind.i64.wrap ((n : Int) - 1) = (n : Int) - 1 := wrap_i64 (by omega) (by omega)

/-- A slice's row of cells, one cell an element. -/
def R1 (h : Heap) (a : Option (Nat × Nat)) (z : Nat) (l : List V) : Prop :=
  match a with
  | none => l = []
  | some (id, off) => z = 1 ∧ ∃ vs ro ty, h[id]? = some (.cells vs ro ty) ∧ off + l.length ≤ vs.length ∧ ∀ (i : Nat) v, l[i]? = some v → vs[off + i]? = some v
theorem R1.at {h : Heap} {a : Option (Nat × Nat)} {z : Nat} {l : List V} (hR : R1 h a z l) {i : Nat} {v : V} (hi : l[i]? = some v) :
    ∃ id off vs ro ty, a = some (id, off) ∧ z = 1 ∧ h[id]? = some (.cells vs ro ty) ∧ vs[off + i]? = some v := by
  cases a with
  | none => simp only [R1] at hR; subst hR; simp at hi
  | some q =>
    obtain ⟨id, off⟩ := q
    obtain ⟨hz, vs, ro, ty, h1, h2, h3⟩ := hR
    exact ⟨id, off, vs, ro, ty, rfl, hz, h1, h3 i v hi⟩
theorem R1.lt {h : Heap} {a : Option (Nat × Nat)} {z : Nat} {l : List V} (hR : R1 h a z l) {i : Nat} (hi : i < l.length) :
    ∃ id off vs ro ty, a = some (id, off) ∧ z = 1 ∧ h[id]? = some (.cells vs ro ty) ∧ vs[off + i]? = some l[i] := hR.at (List.getElem?_eq_getElem hi)

/-- What was there is there still. -/
def Keeps (h h' : Heap) : Prop := h.length ≤ h'.length ∧ ∀ (i : Nat) o, h[i]? = some o → h'[i]? = some o
theorem Keeps.refl (h : Heap) : Keeps h h := ⟨Nat.le_refl _, fun _ _ e => e⟩
theorem Keeps.trans {a b c : Heap} (x : Keeps a b) (y : Keeps b c) : Keeps a c := ⟨Nat.le_trans x.1 y.1, fun i o e => y.2 i o (x.2 i o e)⟩
theorem Keeps.app (h os : Heap) : Keeps h (h ++ os) := ⟨by simp, fun i o e => by rw [get_old _ (by rw [e]; rfl)]; exact e⟩
theorem R1.keeps {h h' : Heap} {a : Option (Nat × Nat)} {z : Nat} {l : List V} (hR : R1 h a z l) (k : Keeps h h') : R1 h' a z l := by
  cases a with
  | none => exact hR
  | some q =>
    obtain ⟨id, off⟩ := q
    obtain ⟨hz, vs, ro, ty, h1, h2, h3⟩ := hR
    exact ⟨hz, vs, ro, ty, k.2 _ _ h1, h2, h3⟩

theorem Pc_of {M : Mach} {f : Nat} {args : List V} {h h1 : Heap} {v : V} {d : Option Nat} {k : List K} {fr : List V} {Q : X → List V → Heap → Prop} (ht : To M f args h v h1) (hr : Un M k .nrm (put fr d v) h1 Q) : Pc M f args h d k fr Q := by
  rw [Pc_to ht]; exact hr
theorem Pc_ofG {M : Mach} {f : Nat} {args : List V} {h : Heap} {v : V} {d : Option Nat} {k : List K} {fr : List V} {Q : X → List V → Heap → Prop} (ht : ∃ os, To M f args h v (h ++ os)) (hr : ∀ os, Un M k .nrm (put fr d v) (h ++ os) Q) : Pc M f args h d k fr Q := by
  obtain ⟨os, ht⟩ := ht
  rw [Pc_to ht]; exact hr os
theorem Pc_ofK {M : Mach} {f : Nat} {args : List V} {h : Heap} {v : V} {d : Option Nat} {k : List K} {fr : List V} {Q : X → List V → Heap → Prop} (ht : ∃ v' h', To M f args h v' h' ∧ v' = v ∧ Keeps h h') (hr : ∀ h', Keeps h h' → Un M k .nrm (put fr d v) h' Q) : Pc M f args h d k fr Q := by
  obtain ⟨_, h', ht, rfl, hk⟩ := ht
  rw [Pc_to ht]; exact hr h' hk
theorem keeps_of {M : Mach} {f : Nat} {args : List V} {h : Heap} {v : V} (ht : ∃ os, To M f args h v (h ++ os)) : ∃ v' h', To M f args h v' h' ∧ v' = v ∧ Keeps h h' := by
  obtain ⟨os, ht⟩ := ht
  exact ⟨_, _, ht, rfl, Keeps.app _ _⟩
theorem Po_add {M : Mach} {a b : List UInt8} {h : Heap} {d : Option Nat} {k : List K} {fr : List V} {Q : X → List V → Heap → Prop} (hl : a.length + b.length ≤ 4611686018427387904) (hr : Un M k .nrm (put fr d (.s (a ++ b))) h Q) : Po M (bn .add (.s a) (.s b) h) d k fr Q := by
  rw [bn_s_add a b hl]; exact hr
theorem grow_of {M : Mach} {f : Nat} {args : List V} {h : Heap} {r : V} (hw : ∃ v h', To M f args h v h' ∧ (v = r ∧ ∃ os, h' = h ++ os)) : ∃ os, To M f args h r (h ++ os) := by
  obtain ⟨v, h', a, rfl, os, rfl⟩ := hw
  exact ⟨os, a⟩
/-- A slice that is being made, its row so far; one cell an element. -/
def SB (h : Heap) (x : V) (l : List V) : Prop := (l = [] ∧ x = .sl none 0 (some 0) 0) ∨ ∃ id, x = .sl (some (id, 0)) l.length none 1 ∧ h[id]? = some (.cells l false none) ∧ l ≠ []
/-- Is an object this slice's row? -/
def V.at (x : V) (j : Nat) : Prop := ∃ off n c z, x = .sl (some (j, off)) n c z
theorem app1 {h : Heap} {x : V} {l : List V} (hb : SB h x l) (v : V) (bytes : Nat) (hl : (l.length + 1) * bytes ≤ 35184372088832) (hl2 : l.length + 1 ≤ 35184372088832) :
    ∃ H', appendS (h ++ [.cells [v] false none]) false 1 bytes x (.sl (some (h.length, 0)) 1 (some 1) 1) = some (.sl (some (h.length + 1, 0)) (l ++ [v]).length none 1, H') ∧
      SB H' (.sl (some (h.length + 1, 0)) (l ++ [v]).length none 1) (l ++ [v]) ∧ H'.length = h.length + 2 ∧ ∀ j o, h[j]? = some o → ¬ x.at j → H'[j]? = some o := by
  have hsrc : appSrc (h ++ [.cells [v] false none]) false 1 (.sl (some (h.length, 0)) 1 (some 1) 1) = some (1, [v]) := by
    simp [appSrc, getCells, get_new0]
  have hb2 : ¬ ((l.length + 1) * bytes > 35184372088832 ∨ l.length + 1 > 35184372088832) := by omega
  rcases hb with ⟨rfl, rfl⟩ | ⟨id, rfl, hid, _⟩
  · refine ⟨(h ++ [.cells [v] false none]) ++ [.cells [v] false none], ?_, .inr ⟨_, rfl, ?_, by simp⟩, by simp, fun j o hj _ => ?_⟩
    · simp only [appendS, appendG, hsrc]
      simp only [List.length_nil] at hb2
      rw [if_neg (by decide), if_neg hb2]
      simp
    · rw [List.append_assoc, get_new]; rfl
    · rw [List.append_assoc, get_old _ (by rw [hj]; rfl)]; exact hj
  · have hlt : id < h.length := (List.getElem?_eq_some_iff.1 hid).1
    have hid2 : (h ++ [.cells [v] false none])[id]? = some (.cells l false none) := by rw [get_old _ (by rw [hid]; rfl)]; exact hid
    have hg : getCells (h ++ [.cells [v] false none]) id 0 (l.length * 1) = some l := by
      simp [getCells, hid2]
    refine ⟨(h ++ [Obj.cells [v] false none]).set id Obj.dead ++ [Obj.cells (l ++ [v]) false none], ?_, .inr ⟨_, rfl, ?_, by simp⟩, by simp, fun j o hj hx => ?_⟩
    · have hrw : rwOk (h ++ [.cells [v] false none]) id = true := by simp [rwOk, hid2]
      simp only [appendS, appendG, hsrc]
      rw [if_neg (by decide), if_neg hb2]
      simp only [ne_eq, not_true_eq_false, if_false, hg, hrw, if_true]
      simp [List.length_set, tagOf]
    · rw [List.getElem?_append_right (by simp)]; simp
    · have hne : id ≠ j := fun c => hx ⟨0, _, _, _, by rw [c]⟩
      rw [List.getElem?_append_left (by have := (List.getElem?_eq_some_iff.1 hj).1; simp; omega), List.getElem?_set_ne hne, get_old _ (by rw [hj]; rfl)]
      exact hj
theorem SB.row {h : Heap} {x : V} {l : List V} (hb : SB h x l) : ∃ a c z, x = .sl a l.length c z ∧ R1 h a z l := by
  rcases hb with ⟨rfl, rfl⟩ | ⟨id, rfl, hid, _⟩
  · exact ⟨none, _, _, rfl, rfl⟩
  · exact ⟨_, _, _, rfl, rfl, l, false, none, hid, by simp, fun i v hi => by simpa using hi⟩
theorem SB.nil (h : Heap) : SB h (.sl none 0 (some 0) 0) [] := .inl ⟨rfl, rfl⟩
theorem set_same {H : Heap} {i : Nat} (o : Obj) (hs : (H[i]?).isSome = true) : (H.set i o)[i]? = some o := by
  cases hh : H[i]? with
  | none => rw [hh] at hs; cases hs
  | some x => rw [List.getElem?_set_self (List.getElem?_eq_some_iff.1 hh).1]
theorem set_ne {H : Heap} {i j : Nat} (o : Obj) (hn : i ≠ j) : (H.set i o)[j]? = H[j]? := List.getElem?_set_ne hn
attribute [go_sem] set_same set_ne Nat.left_eq_add Nat.add_eq_left Nat.add_left_cancel_iff Nat.succ_ne_zero List.length_set
theorem Keeps.set {h H : Heap} (k : Keeps h H) {i : Nat} (hi : h.length ≤ i) (o : Obj) : Keeps h (H.set i o) :=
  ⟨by simpa using k.1, fun j x hj => by
    have := (List.getElem?_eq_some_iff.1 hj).1
    rw [List.getElem?_set_ne (by omega)]; exact k.2 j x hj⟩
theorem Keeps.apps {h H : Heap} (k : Keeps h H) (os : Heap) : Keeps h (H ++ os) := k.trans (Keeps.app _ _)
theorem R1.set {H : Heap} {a : Option (Nat × Nat)} {z : Nat} {l : List V} (hR : R1 H a z l) {i : Nat} (hi : ∀ off, a ≠ some (i, off)) (o : Obj) : R1 (H.set i o) a z l := by
  cases a with
  | none => exact hR
  | some q =>
    obtain ⟨id, off⟩ := q
    obtain ⟨hz, vs, ro, ty, h1, h2, h3⟩ := hR
    exact ⟨hz, vs, ro, ty, by rw [List.getElem?_set_ne (fun c => hi off (by rw [c]))]; exact h1, h2, h3⟩
/-- A slice that is made while some objects stay: its row is none of them. -/
def Off (H0 : Heap) (x : V) : Prop := ∀ j, x.at j → H0.length ≤ j
theorem Off.nil (H0 : Heap) (c : Option Nat) (n z : Nat) : Off H0 (.sl none n c z) := fun j ⟨_, _, _, _, e⟩ => by cases e
theorem Off.new {H0 H : Heap} (hk : Keeps H0 H) (k n z : Nat) (c : Option Nat) : Off H0 (.sl (some (H.length + k, 0)) n c z) := fun j ⟨_, _, _, _, e⟩ => by
  have := hk.1
  injection e with e1
  injection e1 with e1
  injection e1 with e1 _
  omega
theorem Off.ne {H0 : Heap} {a : Option (Nat × Nat)} {n z : Nat} {c : Option Nat} (ho : Off H0 (.sl a n c z)) {i : Nat} (hi : i < H0.length) (off : Nat) : a ≠ some (i, off) := fun e => by
  have := ho i ⟨off, n, c, z, by rw [e]⟩
  omega
theorem Off.keeps {H0 H H' : Heap} {x : V} (ho : Off H0 x) (hk : Keeps H0 H) (hl : H.length ≤ H'.length) (hp : ∀ j o, H[j]? = some o → ¬ x.at j → H'[j]? = some o) : Keeps H0 H' :=
  ⟨Nat.le_trans hk.1 hl, fun j o hj => hp j o (hk.2 j o hj) fun hx => by
    have h1 := ho j hx
    have h2 := (List.getElem?_eq_some_iff.1 hj).1
    omega⟩
/-- A row of steps by what it leaves. -/
theorem Un_cut {M : Mach} {l : List COp} {k : List K} {fr : List V} {h : Heap} {Q : X → List V → Heap → Prop} (R : List V → Heap → Prop)
    (h1 : Un M [.ops l] .nrm fr h (fun x fr' h' => R fr' h')) (h2 : ∀ fr' h', R fr' h' → Un M k .nrm fr' h' Q) : Un M (.ops l :: k) .nrm fr h Q := by
  obtain ⟨n, fr', h', a, b⟩ := h1
  exact ⟨n, fr', h', a, h2 _ _ b⟩
theorem Un_cutc {M : Mach} {c : C} {k : List K} {fr : List V} {h : Heap} {Q : X → List V → Heap → Prop} (R : X → List V → Heap → Prop)
    (h1 : Un M [.code c] .nrm fr h R) (h2 : ∀ x fr' h', R x fr' h' → Un M k x fr' h' Q) : Un M (.code c :: k) .nrm fr h Q := by
  obtain ⟨n, x, fr', h', a, b⟩ := h1
  exact ⟨n, x, fr', h', a, h2 _ _ _ b⟩
theorem Pc_cut {M : Mach} {f : Nat} {args : List V} {d : Option Nat} {r : List COp} {k : List K} {fr : List V} {h : Heap} {Q : X → List V → Heap → Prop} (R : List V → Heap → Prop)
    (h1 : Pc M f args h d [.ops r] fr (fun x fr' h' => R fr' h')) (h2 : ∀ fr' h', R fr' h' → Un M k .nrm fr' h' Q) : Pc M f args h d (.ops r :: k) fr Q := by
  obtain ⟨v, hh, ht, hr⟩ := h1
  exact ⟨v, hh, ht, Un_cut R hr h2⟩
/-- .. where the heap stays, and some slots. -/
theorem Pc_cutF {M : Mach} {f n : Nat} {args : List V} {d : Option Nat} {r : List COp} {k : List K} {g : Nat → V} {h : Heap} {Q : X → List V → Heap → Prop} (keep : Nat → Prop) (R : (Nat → V) → Prop)
    (h1 : Pc M f args h d [.ops r] (frL n g) (fun x fr' h' => h' = h ∧ ∃ g', fr' = frL n g' ∧ (∀ j, keep j → g' j = g j) ∧ R g')) (h2 : ∀ g', (∀ j, keep j → g' j = g j) → R g' → Un M k .nrm (frL n g') h Q) : Pc M f args h d (.ops r :: k) (frL n g) Q := by
  obtain ⟨v, hh, ht, m, fr', h', e1, rfl, g', rfl, e2, e3⟩ := h1
  exact ⟨v, hh, ht, m, _, _, e1, h2 g' e2 e3⟩
theorem decide_t {p : Prop} [Decidable p] (h : p) : decide p = true := decide_eq_true h
theorem decide_f {p : Prop} [Decidable p] (h : ¬ p) : decide p = false := decide_eq_false h
end Am
end Go.Proofs.YtcndgnddipbbgaaGreat
