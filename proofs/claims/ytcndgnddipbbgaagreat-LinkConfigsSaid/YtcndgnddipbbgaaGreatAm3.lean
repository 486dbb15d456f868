/-
  THE ABSTRACT MACHINE, part 3: what it means that abstract values, frames and heaps stand for true ones; how that is kept.
  Conditions: none (definitions and lemmas on worlds alone).
-/
import Derived.Test.YtcndgnddipbbgaaGreatAm2
import Derived.Below
import Derived.Laws.IdiomCopy
set_option linter.unusedVariables false
set_option linter.unusedSimpArgs false
namespace Go.Proofs.YtcndgnddipbbgaaGreat
namespace Am
open Go.RowKit

/-- Where an object lies: its block, where in it, how many cells the block has. -/
structure Loc where
  b : Nat
  o : Nat
  n : Nat

abbrev Sg := Nat → Option Loc

mutual
inductive VR (σ : Sg) : V → Value → Prop where
  | b (x : Bool) : VR σ (.b x) (.bool x)
  | i (k : IntKind) (n : Int) : VR σ (.i k n) (.int k n)
  | s (l : List UInt8) : VR σ (.s l) (.string ⟨l.toArray⟩)
  | p0 : VR σ (.p none) (.pointer none)
  | p {id off : Nat} {l : Loc} (h : σ id = some l) : VR σ (.p (some (id, off))) (.pointer (some ⟨l.b, l.o + off, none⟩))
  | sl0 (z : Nat) : VR σ (.sl none 0 (some 0) z) (.slice none 0 0)
  | sl {id off len sz : Nat} {cap : Option Nat} {l : Loc} {o' c : Nat} (h : σ id = some l) (ho : (0 < len ∨ ∃ k, cap = some k ∧ 0 < k) → o' = l.o + off)
      (hn : o' + c * sz ≤ l.n) (hl : len ≤ c) (hc : ∀ k, cap = some k → c = k) : VR σ (.sl (some (id, off)) len cap sz) (.slice (some ⟨l.b, o', none⟩) len c)
  | m0 : VR σ (.m none) (.map none)
  | m {id : Nat} {l : Loc} (h : σ id = some l) : VR σ (.m (some id)) (.map (some l.b))
  | f (fn : Nat) {cs : List V} {us : List Value} (h : VRs σ cs us) : VR σ (.f fn cs) (.func (.func fn) #[] us.toArray)
  | nf : VR σ .nf .nilFunc
  | ic (t : Nat) {x : V} {u : Value} (h : VR σ x u) : VR σ (.ic t x) (.iface t u)
  | ni : VR σ .ni .nilIface
  | g {l : List V} {us : List Value} (h : VRs σ l us) : VR σ (.g l) (.agg us.toArray)
  | t {l : List V} {us : List Value} (h : VRs σ l us) : VR σ (.t l) (.tuple us.toArray)
  | z (c : Z) (n : Int) (h : c.holds n) : VR σ (.z c) (.int .i64 n)
inductive VRs (σ : Sg) : List V → List Value → Prop where
  | nil : VRs σ [] []
  | cons {v : V} {u : Value} {l : List V} {us : List Value} (h : VR σ v u) (hs : VRs σ l us) : VRs σ (v :: l) (u :: us)
end

def Le (σ σ' : Sg) : Prop := ∀ (i : Nat) (l : Loc), σ i = some l → σ' i = some l
theorem Le.refl (σ : Sg) : Le σ σ := fun _ _ h => h
theorem Le.trans {a b c : Sg} (h : Le a b) (k : Le b c) : Le a c := fun i l e => k i l (h i l e)

mutual
theorem VR.mono {σ σ' : Sg} (hle : Le σ σ') {v : V} {u : Value} (h : VR σ v u) : VR σ' v u := by
  cases h with
  | b x => exact .b x
  | i k n => exact .i k n
  | s l => exact .s l
  | p0 => exact .p0
  | p h => exact .p (hle _ _ h)
  | sl0 z => exact .sl0 z
  | sl h ho hn hl hc => exact .sl (hle _ _ h) ho hn hl hc
  | m0 => exact .m0
  | m h => exact .m (hle _ _ h)
  | f fn h => exact .f fn (VRs.mono hle h)
  | nf => exact .nf
  | ic t h => exact .ic t (VR.mono hle h)
  | ni => exact .ni
  | g h => exact .g (VRs.mono hle h)
  | t h => exact .t (VRs.mono hle h)
  | z c n h => exact .z c n h
theorem VRs.mono {σ σ' : Sg} (hle : Le σ σ') {v : List V} {u : List Value} (h : VRs σ v u) : VRs σ' v u := by
  cases h with
  | nil => exact .nil
  | cons h hs => exact .cons (VR.mono hle h) (VRs.mono hle hs)
end

section
variable {σ σ' : Sg}
theorem VRs.length {l : List V} {us : List Value} (h : VRs σ l us) : l.length = us.length := by
  induction l generalizing us with
  | nil => cases h; rfl
  | cons v l ih => cases h with | cons h hs => simp [ih hs]
theorem VRs.get {l : List V} {us : List Value} (h : VRs σ l us) {j : Nat} {v : V} (hj : l[j]? = some v) : ∃ u, us[j]? = some u ∧ VR σ v u := by
  induction l generalizing us j with
  | nil => simp at hj
  | cons x l ih =>
    cases h with
    | cons h hs =>
      cases j with
      | zero => simp at hj; subst hj; exact ⟨_, rfl, h⟩
      | succ j => simpa using ih hs (by simpa using hj)
theorem VRs.of_get {l : List V} {us : List Value} (hl : l.length = us.length) (h : ∀ (j : Nat) v u, l[j]? = some v → us[j]? = some u → VR σ v u) : VRs σ l us := by
  induction l generalizing us with
  | nil => cases us with | nil => exact .nil | cons => simp at hl
  | cons v l ih =>
    cases us with
    | nil => simp at hl
    | cons u us => exact .cons (h 0 v u rfl rfl) (ih (by simpa using hl) fun j x y a b => h (j + 1) x y (by simpa using a) (by simpa using b))
theorem VRs.app {l r : List V} {us vs : List Value} (h : VRs σ l us) (k : VRs σ r vs) : VRs σ (l ++ r) (us ++ vs) := by
  induction l generalizing us with
  | nil => cases h; exact k
  | cons v l ih => cases h with | cons h hs => exact .cons h (ih hs)
theorem VRs.drop {l : List V} {us : List Value} (h : VRs σ l us) (n : Nat) : VRs σ (l.drop n) (us.drop n) := by
  induction n generalizing l us with
  | zero => exact h
  | succ n ih =>
    cases h with
    | nil => exact .nil
    | cons h hs => exact ih hs
theorem VRs.take {l : List V} {us : List Value} (h : VRs σ l us) (n : Nat) : VRs σ (l.take n) (us.take n) := by
  induction n generalizing l us with
  | zero => exact .nil
  | succ n ih =>
    cases h with
    | nil => exact .nil
    | cons h hs => exact .cons h (ih hs)
theorem VRs.set {l : List V} {us : List Value} (h : VRs σ l us) (n : Nat) {v : V} {u : Value} (k : VR σ v u) : VRs σ (l.set n v) (us.set n u) := by
  induction n generalizing l us with
  | zero => cases h with | nil => exact .nil | cons h hs => exact .cons k hs
  | succ n ih => cases h with | nil => exact .nil | cons h hs => exact .cons h (ih hs)
theorem VR.one {v : V} {u : Value} (h : VR σ v u) (h1 : v.one = true) : u.oneCell' = true := by
  cases h <;> first | rfl | simp [V.one] at h1
theorem VR.cells {v : V} {u : Value} (h : VR σ v u) : VRs σ v.cells u.cells.toList := by
  cases h with
  | g h => simpa [V.cells, Value.cells] using h
  | b x => exact .cons (.b x) .nil
  | i k n => exact .cons (.i k n) .nil
  | s l => exact .cons (.s l) .nil
  | p0 => exact .cons .p0 .nil
  | p h => exact .cons (.p h) .nil
  | sl0 z => exact .cons (.sl0 z) .nil
  | sl h ho hn hl hc => exact .cons (.sl h ho hn hl hc) .nil
  | m0 => exact .cons .m0 .nil
  | m h => exact .cons (.m h) .nil
  | f fn h => exact .cons (.f fn h) .nil
  | nf => exact .cons .nf .nil
  | ic t h => exact .cons (.ic t h) .nil
  | ni => exact .cons .ni .nil
  | t h => exact .cons (.t h) .nil
  | z c n h => exact .cons (.z c n h) .nil
end

theorem string_eta (s : ByteArray) : (⟨s.data.toList.toArray⟩ : ByteArray) = s := by cases s; simp

theorem ofCell_sound (σ : Sg) {u : Value} {v : V} (h : ofCell u = some v) : VR σ v u ∧ v.one = true := by
  unfold ofCell at h
  split at h <;> first | (injection h with h; subst h) | cases h
  · exact ⟨.b _, rfl⟩
  · exact ⟨.i _ _, rfl⟩
  · refine ⟨?_, rfl⟩
    rename_i s
    have := VR.s (σ := σ) s.data.toList
    rwa [string_eta] at this
  · exact ⟨.p0, rfl⟩
  · exact ⟨.sl0 0, rfl⟩
  · exact ⟨.m0, rfl⟩
  · exact ⟨.nf, rfl⟩
  · exact ⟨.ni, rfl⟩
theorem ofCells_sound (σ : Sg) {us : List Value} : ∀ {vs : List V}, ofCells us = some vs → VRs σ vs us ∧ vs.all V.one = true := by
  induction us with
  | nil => intro vs h; simp [ofCells] at h; subst h; exact ⟨.nil, rfl⟩
  | cons u us ih =>
    intro vs h
    simp only [ofCells] at h
    split at h
    · rename_i x xs hx hxs
      injection h with h; subst h
      obtain ⟨a, b⟩ := ofCell_sound σ hx
      obtain ⟨c, d⟩ := ih hxs
      exact ⟨.cons a c, by simp [b, d]⟩
    · cases h
theorem ofVal_sound (σ : Sg) {u : Value} {v : V} (h : ofVal u = some v) : VR σ v u := by
  unfold ofVal at h
  split at h
  · rename_i cs
    cases hc : ofCells cs.toList with
    | none => simp [hc] at h
    | some l => simp [hc] at h; subst h; simpa using VR.g (ofCells_sound σ hc).1
  · rename_i cs
    cases hc : ofCells cs.toList with
    | none => simp [hc] at h
    | some l => simp [hc] at h; subst h; simpa using VR.t (ofCells_sound σ hc).1
  · exact (ofCell_sound σ h).1

/-! ### Heaps -/
def Obj.live : Obj → Bool
  | .cells _ ro _ => !ro
  | .map _ => true
  | .str _ _ => true
  | .dead => false
def Obj.there : Obj → Bool
  | .dead => false
  | _ => true

/-- What is known of a block of a known type: below a million: the type, and the object fills the block; from a million on: the type alone. -/
def tyIs (t T n m : Nat) : Prop := (t < 1000000 → T = t ∧ n = m) ∧ (1000000 ≤ t → T + 1000000 = t)

def OR (σ : Sg) (B : Nat) (w : World) (l : Loc) : Obj → Prop
  | .cells vs ro ty => (∃ T, w.shape? l.b = some (T, l.n) ∧ ∀ t, ty = some t → l.o = 0 ∧ tyIs t T l.n vs.length) ∧ l.o + vs.length ≤ l.n ∧ (ro = false → B ≤ l.b ∧ ∀ j, j < l.n → w.frozen? ⟨l.b, j, none⟩ = false) ∧
      ∀ (j : Nat) (v : V), vs[j]? = some v → v.one = true ∧ ∃ u, w.cell? ⟨l.b, l.o + j, none⟩ = some u ∧ VR σ v u
  | .map es => B ≤ l.b ∧ ∃ mes ck, w.heap[l.b]? = some (.map mes ck) ∧ mes.size = es.length ∧ ∀ (j : Nat) (e : V × V), es[j]? = some e → ∃ me : MapEntry, mes[j]? = some me ∧ VR σ e.1 me.key ∧ VR σ e.2 me.val
  | .str s pos => l.o = 0 ∧ B ≤ l.b ∧ w.heap[l.b]? = some (.stringIter ⟨s.toArray⟩ pos)
  | .dead => True

structure HR (σ : Sg) (B : Nat) (w0 : World) (h : Heap) (w : World) : Prop where
  below : Below B w0 w
  base : B ≤ w.heap.size
  dom : ∀ i l, σ i = some l → i < h.length
  obj : ∀ i o l, h[i]? = some o → σ i = some l → OR σ B w l o
  lt : ∀ i l, σ i = some l → l.b < w.heap.size
  inj : ∀ i j oi oj li lj, i ≠ j → h[i]? = some oi → h[j]? = some oj → oi.live = true → oj.there = true → σ i = some li → σ j = some lj → li.b ≠ lj.b

theorem cell?_of {w w' : World} {b : Nat} (h : w'.heap[b]? = w.heap[b]?) (j : Nat) : w'.cell? ⟨b, j, none⟩ = w.cell? ⟨b, j, none⟩ := by simp [World.cell?, h]
theorem shape?_of {w w' : World} {b : Nat} (h : w'.heap[b]? = w.heap[b]?) : w'.shape? b = w.shape? b := by simp [World.shape?, h]
theorem frozen?_of {w w' : World} {b : Nat} (h : w'.heap[b]? = w.heap[b]?) (j : Nat) : w'.frozen? ⟨b, j, none⟩ = w.frozen? ⟨b, j, none⟩ := by simp [World.frozen?, h]

theorem OR.frame {σ : Sg} {B : Nat} {w w' : World} {l : Loc} {o : Obj} (h : OR σ B w l o) (hb : w'.heap[l.b]? = w.heap[l.b]?) : OR σ B w' l o := by
  cases o with
  | cells vs ro ty =>
    obtain ⟨⟨T, h2, h2t⟩, h3, h4, h5⟩ := h
    exact ⟨⟨T, by rw [shape?_of hb, h2], h2t⟩, h3, fun hr => ⟨(h4 hr).1, fun j hj => by rw [frozen?_of hb]; exact (h4 hr).2 j hj⟩,
      fun j v hv => by
        obtain ⟨ho, u, hu, hr⟩ := h5 j v hv
        exact ⟨ho, u, by rw [cell?_of hb]; exact hu, hr⟩⟩
  | map es => obtain ⟨h1, mes, ck, h2, h3⟩ := h; exact ⟨h1, mes, ck, by rw [hb]; exact h2, h3⟩
  | str s pos => exact ⟨h.1, h.2.1, by rw [hb]; exact h.2.2⟩
  | dead => trivial
theorem OR.mono {σ σ' : Sg} (hle : Le σ σ') {B : Nat} {w : World} {l : Loc} {o : Obj} (h : OR σ B w l o) : OR σ' B w l o := by
  cases o with
  | cells vs ro ty =>
    obtain ⟨h2, h3, h4, h5⟩ := h
    exact ⟨h2, h3, h4, fun j v hv => by obtain ⟨ho, u, hu, hr⟩ := h5 j v hv; exact ⟨ho, u, hu, hr.mono hle⟩⟩
  | map es =>
    obtain ⟨h1, mes, ck, h2, h3, h4⟩ := h
    exact ⟨h1, mes, ck, h2, h3, fun j e he => by obtain ⟨me, a, b, c⟩ := h4 j e he; exact ⟨me, a, b.mono hle, c.mono hle⟩⟩
  | str s pos => exact h
  | dead => trivial

/-- What is new: numbers from a on, ahead of b. -/
def Ext (σ σ' : Sg) (a b : Nat) : Prop := Le σ σ' ∧ ∀ i, i < a ∨ b ≤ i → σ' i = σ i
theorem Ext.refl (σ : Sg) (a b : Nat) : Ext σ σ a b := ⟨Le.refl σ, fun _ _ => rfl⟩
theorem Ext.trans {σ τ υ : Sg} {a b c : Nat} (h : Ext σ τ a b) (k : Ext τ υ b c) (hab : a ≤ b) (hbc : b ≤ c) : Ext σ υ a c :=
  ⟨h.1.trans k.1, fun i hi => (k.2 i (by omega)).trans (h.2 i (by omega))⟩

theorem shape_cell {w : World} {b T n : Nat} (h : w.shape? b = some (T, n)) {j : Nat} (hj : j < n) : ∃ u, w.cell? ⟨b, j, none⟩ = some u := by
  unfold World.shape? at h
  split at h
  · rename_i c e fz hh
    injection h with h
    injection h with _ h2
    exact ⟨c[j], by simp [World.cell?, hh, h2 ▸ hj]⟩
  · cases h

theorem add0 (b o n : Nat) : (⟨b, o, none⟩ : Addr).add n = ⟨b, o + n, none⟩ := by unfold Addr.add; split <;> simp_all

theorem getCells_some {h : Heap} {id off n : Nat} {cs : List V} (hg : getCells h id off n = some cs) :
    ∃ vs ro ty, h[id]? = some (.cells vs ro ty) ∧ off + n ≤ vs.length ∧ cs = (vs.drop off).take n := by
  unfold getCells at hg
  split at hg
  · rename_i vs ro ty hh
    split at hg
    · injection hg with hg; exact ⟨vs, ro, ty, hh, by assumption, hg.symm⟩
    · cases hg
  · cases hg

section
variable {σ : Sg} {B : Nat} {w0 w : World} {h : Heap}

/-- What is read of an object is read of memory. -/
theorem HR.read (H : HR σ B w0 h w) {id off n : Nat} {cs : List V} (hg : getCells h id off n = some cs) {l : Loc} (hs : σ id = some l) :
    cs.length = n ∧ ∃ us, VRs σ cs us ∧ us.length = n ∧ cs.all V.one = true ∧ ∀ j u, us[j]? = some u → w.cell? ⟨l.b, l.o + off + j, none⟩ = some u := by
  obtain ⟨vs, ro, ty, hh, hle, rfl⟩ := getCells_some hg
  obtain ⟨⟨T, h2, h2t⟩, h3, h4, h5⟩ := H.obj id _ l hh hs
  have hlen : ((vs.drop off).take n).length = n := by simp; omega
  refine ⟨hlen, ?_⟩
  have hex : ∀ m, m ≤ n → ∃ us, VRs σ ((vs.drop off).take m) us ∧ us.length = m ∧ ((vs.drop off).take m).all V.one = true ∧ ∀ j u, us[j]? = some u → w.cell? ⟨l.b, l.o + off + j, none⟩ = some u := by
    intro m
    induction m with
    | zero => intro _; exact ⟨[], by simpa using VRs.nil, rfl, by simp, by simp⟩
    | succ m ih =>
      intro hm
      obtain ⟨us, a, b, c, d⟩ := ih (by omega)
      have hlt : m < (vs.drop off).length := by simp; omega
      have hv : vs[off + m]? = some ((vs.drop off)[m]) := by rw [← List.getElem?_drop, List.getElem?_eq_getElem hlt]
      obtain ⟨ho, u, hu, hr⟩ := h5 _ _ hv
      rw [List.take_succ_eq_append_getElem hlt]
      refine ⟨us ++ [u], a.app (.cons hr .nil), by simp [b], by rw [List.all_append, c]; simpa using ho, fun j x hx => ?_⟩
      by_cases hj : j < us.length
      · rw [List.getElem?_append_left hj] at hx; exact d j x hx
      · rw [List.getElem?_append_right (by omega)] at hx
        have : j = m := by
          by_cases e : j - us.length = 0
          · omega
          · have : ([u] : List Value)[j - us.length]? = none := List.getElem?_eq_none (by simp; omega)
            rw [this] at hx; cases hx
        subst this
        simp [b] at hx
        subst hx
        rw [Nat.add_assoc, hu]
  obtain ⟨us, a, b, c, d⟩ := hex n (Nat.le_refl n)
  exact ⟨us, a, b, c, d⟩

theorem HR.drew (H : HR σ B w0 h w) : HR σ B w0 h w.drew := ⟨H.below.drew, H.base, H.dom, fun i o l a b => (H.obj i o l a b).frame rfl, H.lt, H.inj⟩

/-- An object that nobody holds yet. -/
theorem HR.more (H : HR σ B w0 h w) (os : List Obj) : HR σ B w0 (h ++ os) w := by
  refine ⟨H.below, H.base, fun i l hs => by have := H.dom i l hs; simp; omega, fun i o l hi hs => ?_, H.lt, fun i j oi oj li lj hij hi hj a b hsi hsj => ?_⟩
  · have := H.dom i l hs
    rw [List.getElem?_append_left this] at hi
    exact H.obj i o l hi hs
  · have h1 := H.dom i li hsi
    have h2 := H.dom j lj hsj
    rw [List.getElem?_append_left h1] at hi
    rw [List.getElem?_append_left h2] at hj
    exact H.inj i j oi oj li lj hij hi hj a b hsi hsj
end
end Am
end Go.Proofs.YtcndgnddipbbgaaGreat
