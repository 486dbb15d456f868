/-
  THE ABSTRACT MACHINE, part 5: operations that make an object, or write one, do what the machine says.
  Conditions: none (lemmas over any program).
-/
import Derived.Test.YtcndgnddipbbgaaGreatAm4
import Derived.Deep.AppendSrc
import Derived.Deep.Upon
import Derived.Laws.IdiomStrings
import Derived.Laws.MakeOwn
set_option linter.unusedVariables false
set_option linter.unusedSimpArgs false
namespace Go.Proofs.YtcndgnddipbbgaaGreat
namespace Am
open Go.RowKit

def upd (σ : Sg) (id : Nat) (l : Loc) : Sg := fun i => if i = id then some l else σ i
theorem upd_at (σ : Sg) (id : Nat) (l : Loc) : upd σ id l id = some l := by simp [upd]
theorem upd_le {σ : Sg} {id : Nat} (l : Loc) (h : σ id = none) : Le σ (upd σ id l) := fun i l' e => by
  have : i ≠ id := by intro c; subst c; rw [h] at e; cases e
  simp [upd, this, e]
theorem upd_other {σ : Sg} {id i : Nat} {l : Loc} (h : i ≠ id) : upd σ id l i = σ i := by simp [upd, h]

section
variable {σ : Sg} {B : Nat} {w0 w w' : World} {h : Heap}

theorem heap_setCells (b : Nat) : ∀ (vs : List Value) (o : Nat) (w : World) (k : Nat), k ≠ b → (w.setCells b o vs).heap[k]? = w.heap[k]?
  | [], _, _, _, _ => rfl
  | v :: r, o, w, k, h => by
    rw [World.setCells, heap_setCells b r (o + 1) _ k h]
    exact Below.heap_setCell w ⟨b, o, none⟩ v k h
theorem shape_setCells (b : Nat) : ∀ (vs : List Value) (o : Nat) (w : World) (k : Nat), (w.setCells b o vs).shape? k = w.shape? k
  | [], _, _, _ => rfl
  | v :: r, o, w, k => by
    rw [World.setCells, shape_setCells b r (o + 1) _ k]
    simp only [World.shape?, World.setCell, Array.getElem?_modify]
    by_cases e : b = k
    · simp only [e, if_true]
      cases hh : w.heap[k]? with
      | none => simp
      | some x => cases x <;> simp
    · simp [e]
theorem size_setCells (b : Nat) : ∀ (vs : List Value) (o : Nat) (w : World), (w.setCells b o vs).heap.size = w.heap.size
  | [], _, _ => rfl
  | v :: r, o, w => by rw [World.setCells, size_setCells b r (o + 1)]; simp [World.setCell]
theorem below_setCells {B : Nat} {a : World} (b : Nat) (hb : B ≤ b) : ∀ (vs : List Value) (o : Nat) (w : World), Below B a w → Below B a (w.setCells b o vs)
  | [], _, _, h => h
  | v :: r, o, w, h => below_setCells b hb r (o + 1) _ (h.setCell (p := ⟨b, o, none⟩) hb v)

/-- A new block holds an object that had no place yet. -/
theorem HR.place (H : HR σ B w0 h w) {id : Nat} {o : Obj} (hid : h[id]? = some o) (hn : σ id = none) {n : Nat} (hlt : w'.heap.size = w.heap.size + 1) (hold : ∀ k, k < w.heap.size → w'.heap[k]? = w.heap[k]?) (hb : Below B w0 w')
    (ho : OR (upd σ id ⟨w.heap.size, 0, n⟩) B w' ⟨w.heap.size, 0, n⟩ o) : HR (upd σ id ⟨w.heap.size, 0, n⟩) B w0 h w' := by
  have hidl : id < h.length := (List.getElem?_eq_some_iff.1 hid).1
  refine ⟨hb, by have := H.base; omega, fun i l hs => ?_, fun i x l hi hs => ?_, fun i l hs => ?_, fun i j oi oj li lj hij hi hj hl ht hsi hsj => ?_⟩
  · by_cases e : i = id
    · subst e; exact hidl
    · rw [upd_other e] at hs; exact H.dom i l hs
  · by_cases e : i = id
    · subst e
      rw [upd_at] at hs
      injection hs with hs
      subst hs
      rw [hid] at hi
      injection hi with hi
      subst hi
      exact ho
    · rw [upd_other e] at hs
      exact ((H.obj i x l hi hs).frame (hold _ (H.lt i l hs))).mono (upd_le _ hn)
  · by_cases e : i = id
    · subst e; rw [upd_at] at hs; injection hs with hs; subst hs; simp [hlt]
    · rw [upd_other e] at hs; have := H.lt i l hs; omega
  · by_cases e1 : i = id
    · subst e1
      have e2 : j ≠ i := fun c => hij c.symm
      rw [upd_at] at hsi
      rw [upd_other e2] at hsj
      injection hsi with hsi
      subst hsi
      have := H.lt j lj hsj
      simp; omega
    · rw [upd_other e1] at hsi
      by_cases e2 : j = id
      · subst e2
        rw [upd_at] at hsj
        injection hsj with hsj
        subst hsj
        have := H.lt i li hsi
        simp; omega
      · rw [upd_other e2] at hsj
        exact H.inj i j oi oj li lj hij hi hj hl ht hsi hsj

/-- One object's block is written. -/
theorem HR.write (H : HR σ B w0 h w) {id : Nat} {o o' : Obj} {l : Loc} (hid : h[id]? = some o) (hl : σ id = some l) (hlive : o.live = true) (hB : B ≤ l.b) (hsz : w'.heap.size = w.heap.size) (hold : ∀ k, k ≠ l.b → w'.heap[k]? = w.heap[k]?) (hb : Below B w0 w')
    (ho : OR σ B w' l o') : HR σ B w0 (h.set id o') w' := by
  have hidl : id < h.length := (List.getElem?_eq_some_iff.1 hid).1
  have hth : o.there = true := by cases o <;> first | rfl | simp [Obj.live] at hlive
  have hget : ∀ i x, (h.set id o')[i]? = some x → (i = id ∧ x = o') ∨ (i ≠ id ∧ h[i]? = some x) := fun i x hi => by
    by_cases e : i = id
    · subst e; rw [List.getElem?_set_self hidl] at hi; injection hi with hi; exact .inl ⟨rfl, hi.symm⟩
    · rw [List.getElem?_set_ne (fun c => e c.symm)] at hi; exact .inr ⟨e, hi⟩
  refine ⟨hb, by rw [hsz]; exact H.base, fun i l hs => by simpa using H.dom i l hs, fun i x l' hi hs => ?_, fun i l' hs => by rw [hsz]; exact H.lt i l' hs, fun i j oi oj li lj hij hi hj hli hj' hsi hsj => ?_⟩
  · rcases hget i x hi with ⟨rfl, rfl⟩ | ⟨hne, hi⟩
    · rw [hl] at hs; injection hs with hs; subst hs; exact ho
    · have hR := H.obj i x l' hi hs
      cases hx : x.there with
      | false => cases x <;> first | trivial | simp [Obj.there] at hx
      | true => exact hR.frame (hold _ (fun c => H.inj id i o x l l' (fun c => hne c.symm) hid hi hlive hx hl hs c.symm))
  · rcases hget i oi hi with ⟨rfl, rfl⟩ | ⟨hne, hi2⟩
    · rcases hget j oj hj with ⟨rfl, rfl⟩ | ⟨hne2, hj2⟩
      · exact absurd rfl hij
      · exact H.inj i j o oj li lj hij hid hj2 hlive hj' hsi hsj
    · rcases hget j oj hj with ⟨rfl, rfl⟩ | ⟨hne2, hj2⟩
      · exact H.inj i j oi o li lj hij hi2 hid hli hth hsi hsj
      · exact H.inj i j oi oj li lj hij hi2 hj2 hli hj' hsi hsj

theorem HR.kill (H : HR σ B w0 h w) (id : Nat) : HR σ B w0 (h.set id .dead) w := by
  have hget : ∀ i x, (h.set id Obj.dead)[i]? = some x → x = .dead ∨ (i ≠ id ∧ h[i]? = some x) := fun i x hi => by
    by_cases e : i = id
    · subst e
      have : i < h.length := by have := (List.getElem?_eq_some_iff.1 hi).1; simpa using this
      rw [List.getElem?_set_self this] at hi; injection hi with hi; exact .inl hi.symm
    · rw [List.getElem?_set_ne (fun c => e c.symm)] at hi; exact .inr ⟨e, hi⟩
  refine ⟨H.below, H.base, fun i l hs => by simpa using H.dom i l hs, fun i x l' hi hs => ?_, H.lt, fun i j oi oj li lj hij hi hj hli hj' hsi hsj => ?_⟩
  · rcases hget i x hi with rfl | ⟨hne, hi⟩
    · trivial
    · exact H.obj i x l' hi hs
  · rcases hget i oi hi with rfl | ⟨hne, hi⟩
    · simp [Obj.live] at hli
    · rcases hget j oj hj with rfl | ⟨hne2, hj⟩
      · simp [Obj.there] at hj'
      · exact H.inj i j oi oj li lj hij hi hj hli hj' hsi hsj

/-- A dead object's block is another object's now. -/
theorem HR.take (H : HR σ B w0 h w) {id id' : Nat} {o o' : Obj} {l l' : Loc} (hid : h[id]? = some o) (hl : σ id = some l) (hlive : o.live = true) (hB : B ≤ l.b) (hlb : l'.b = l.b) (hsz : w'.heap.size = w.heap.size) (hold : ∀ k, k ≠ l.b → w'.heap[k]? = w.heap[k]?) (hb : Below B w0 w')
    (hid' : id' = h.length) (ho : OR (upd σ id' l') B w' l' o') : HR (upd σ id' l') B w0 (h.set id .dead ++ [o']) w' := by
  have hidl : id < h.length := (List.getElem?_eq_some_iff.1 hid).1
  have hth : o.there = true := by cases o <;> first | rfl | simp [Obj.live] at hlive
  have hnone : σ id' = none := by
    cases hs : σ id' with
    | none => rfl
    | some x => have := H.dom _ _ hs; omega
  have hget : ∀ i x, (h.set id Obj.dead ++ [o'])[i]? = some x → (i = id' ∧ x = o') ∨ (i ≠ id' ∧ (x = .dead ∨ (i ≠ id ∧ h[i]? = some x))) := fun i x hi => by
    by_cases e : i < h.length
    · rw [List.getElem?_append_left (by simpa using e)] at hi
      refine .inr ⟨by omega, ?_⟩
      by_cases e2 : i = id
      · subst e2; rw [List.getElem?_set_self hidl] at hi; injection hi with hi; exact .inl hi.symm
      · rw [List.getElem?_set_ne (fun c => e2 c.symm)] at hi; exact .inr ⟨e2, hi⟩
    · rw [List.getElem?_append_right (by simp; omega)] at hi
      simp at hi
      have : i - h.length = 0 := by
        by_cases e3 : i - h.length = 0
        · exact e3
        · rw [List.getElem?_eq_none (by simp; omega)] at hi; cases hi
      rw [this] at hi
      simp at hi
      exact .inl ⟨by omega, hi.symm⟩
  refine ⟨hb, by rw [hsz]; exact H.base, fun i x hs => ?_, fun i x lx hi hs => ?_, fun i x hs => ?_, fun i j oi oj li lj hij hi hj hli hj' hsi hsj => ?_⟩
  · by_cases e : i = id'
    · subst e; simp; omega
    · rw [upd_other e] at hs; have := H.dom i x hs; simp; omega
  · rcases hget i x hi with ⟨rfl, rfl⟩ | ⟨hne, rfl | ⟨hne2, hi⟩⟩
    · rw [upd_at] at hs; injection hs with hs; subst hs; exact ho
    · trivial
    · rw [upd_other hne] at hs
      have hR := H.obj i x lx hi hs
      cases hx : x.there with
      | false => cases x <;> first | trivial | simp [Obj.there] at hx
      | true => exact (hR.frame (hold _ (fun c => H.inj id i o x l lx (fun c => hne2 c.symm) hid hi hlive hx hl hs c.symm))).mono (upd_le _ hnone)
  · by_cases e : i = id'
    · subst e; rw [upd_at] at hs; injection hs with hs; subst hs; rw [hlb, hsz]; exact H.lt _ _ hl
    · rw [upd_other e] at hs; rw [hsz]; exact H.lt i x hs
  · rcases hget i oi hi with ⟨rfl, rfl⟩ | ⟨hne, rfl | ⟨hne2, hi2⟩⟩
    · rcases hget j oj hj with ⟨rfl, rfl⟩ | ⟨hne3, rfl | ⟨hne4, hj⟩⟩
      · exact absurd rfl hij
      · simp [Obj.there] at hj'
      · rw [upd_at] at hsi; injection hsi with hsi; subst hsi
        rw [upd_other hne3] at hsj
        rw [hlb]
        exact H.inj id j o oj l lj (fun c => hne4 c.symm) hid hj hlive hj' hl hsj
    · simp [Obj.live] at hli
    · rcases hget j oj hj with ⟨rfl, rfl⟩ | ⟨hne3, rfl | ⟨hne4, hj⟩⟩
      · rw [upd_at] at hsj; injection hsj with hsj; subst hsj
        rw [upd_other hne] at hsi
        rw [hlb]
        exact H.inj i id oi o li l hne2 hi2 hid hli hth hsi hl
      · simp [Obj.there] at hj'
      · rw [upd_other hne] at hsi
        rw [upd_other hne3] at hsj
        exact H.inj i j oi oj li lj hij hi2 hj hli hj' hsi hsj

theorem place_cells (H : HR σ B w0 h w) {id : Nat} {cs : List V} {ty : Option Nat} (hid : h[id]? = some (.cells cs false ty)) (hn : σ id = none) {C : Array Value} {T : TypeId} {fz : Nat × Nat} (hone : cs.all V.one = true) (hle : cs.length ≤ C.size)
    (hc : ∀ (j : Nat) (v : V), cs[j]? = some v → ∃ u, C[j]? = some u ∧ VR σ v u) (hz : ∀ j, j < C.size → (decide (fz.1 ≤ j) && decide (j < fz.2)) = false) (hty : ∀ t, ty = some t → tyIs t T C.size cs.length := by intro t e; cases e) : HR (upd σ id ⟨w.heap.size, 0, C.size⟩) B w0 h (w.alloc (.cells C T fz)) := by
  have hp : (w.alloc (.cells C T fz)).heap = w.heap.push (.cells C T fz) := rfl
  have hb : (w.alloc (.cells C T fz)).heap[w.heap.size]? = some (.cells C T fz) := by rw [hp]; simp
  refine H.place hid hn (by rw [hp]; simp) (fun k hk => by rw [hp, Array.getElem?_push, if_neg (Nat.ne_of_lt hk)]) (H.below.alloc H.base _) ?_
  refine ⟨⟨T, by unfold World.shape?; rw [hb], fun t e => ⟨rfl, hty t e⟩⟩, by simpa using hle, fun _ => ⟨H.base, fun j hj => ?_⟩, fun j v hv => ?_⟩
  · unfold World.frozen?
    simp only [hb]
    exact hz j hj
  · obtain ⟨u, hu, hr⟩ := hc j v hv
    refine ⟨?_, u, by unfold World.cell?; simp only [hb]; simpa using hu, hr.mono (upd_le _ hn)⟩
    rw [List.all_eq_true] at hone
    exact hone v (List.mem_of_getElem? hv)

variable {P : Program} {G : Nat → Option Nat} {a : Act} {fr : List V}

theorem reps_length (z : List V) (n : Nat) : (reps z n).length = n * z.length := by
  induction n with
  | zero => simp [reps]
  | succ n ih => simp [reps, ih, Nat.succ_mul]; omega
theorem reps_get (z : List V) : ∀ (n j : Nat), j < n * z.length → (reps z n)[j]? = z[j % z.length]? := by
  intro n
  induction n with
  | zero => intro j h; simp at h
  | succ n ih =>
    intro j h
    rw [reps]
    by_cases hj : j < z.length
    · rw [List.getElem?_append_left hj, Nat.mod_eq_of_lt hj]
    · rw [List.getElem?_append_right (by omega), ih (j - z.length) (by rw [Nat.succ_mul] at h; omega)]
      congr 1
      rw [Nat.mod_eq_sub_mod (a := j) (by omega)]
theorem reps_one {z : List V} (h : z.all V.one = true) (n : Nat) : (reps z n).all V.one = true := by
  induction n with
  | zero => rfl
  | succ n ih => simp only [reps, List.all_append, h, ih, Bool.and_self]

theorem made_reps {z : List V} {zv : Array Value} (hz : VRs σ z zv.toList) (n : Nat) : VRs σ (reps z n) (madeCells zv (n * z.length)).toList := by
  have hl := hz.length
  refine VRs.of_get (by simp [reps_length, size_madeCells]) fun j v u hv hu => ?_
  have hj : j < n * z.length := by
    have := (List.getElem?_eq_some_iff.1 hv).1
    rwa [reps_length] at this
  rw [reps_get z n j hj] at hv
  obtain ⟨u', hu', hr⟩ := hz.get hv
  have h0 : 0 < z.length := by
    rcases Nat.eq_zero_or_pos z.length with e | e
    · rw [e] at hj; simp at hj
    · exact e
  have hsz : zv.size = z.length := by simpa using hl.symm
  have hlt : j % z.length < zv.size := by rw [hsz]; exact Nat.mod_lt _ h0
  have e : u = u' := by
    have h1 : (madeCells zv (n * z.length))[j]? = some u := by simpa using hu
    rw [Array.getElem?_eq_getElem (by simpa [size_madeCells] using hj)] at h1
    injection h1 with h1
    have h2 : zv[j % z.length]? = some u' := by simpa using hu'
    rw [Array.getElem?_eq_getElem hlt] at h2
    injection h2 with h2
    rw [← h1, ← h2]
    simp only [madeCells, Array.getElem_map, Array.getElem_range, hsz]
    exact getElem!_pos zv (j % z.length) hlt
  rw [e]; exact hr

theorem parts_build {ps : List (Nat × Operand)} (sz : Nat) : ∀ {qs : List (Nat × Opd)}, trParts G ps = some qs → trBuild G (fun i => some (i * sz, sz)) ps = some (qs.map fun q => (q.1 * sz, sz, q.2)) := by
  induction ps with
  | nil => intro qs h; simp [trParts] at h; subst h; rfl
  | cons p ps ih =>
    intro qs h
    obtain ⟨i, x⟩ := p
    simp only [trParts] at h
    split at h
    · rename_i y ys hy hys
      injection h with h
      subst h
      simp [trBuild, hy, ih hys]
    · cases h

def A1 (P : Program) (o : Oper) (a : Act) (σ : Sg) (B : Nat) (w0 : World) (h : Heap) (w : World) (id : Nat) (mk : Nat → V) : Prop :=
  ∃ l u w', (execOp a.eval o).run P w = .ok (.value u) w' ∧ VR (upd σ id l) (mk id) u ∧ HR (upd σ id l) B w0 h w'

theorem all_one_cells {v : V} (h : v.cells.all V.one = true) : True := trivial

theorem one_all {l : List V} {us : List Value} (h : VRs σ l us) (h1 : l.all V.one = true) : us.all (·.oneCell') = true := by
  induction l generalizing us with
  | nil => cases h; rfl
  | cons v l ih =>
    cases h with
    | cons h hs =>
      simp only [List.all_cons, Bool.and_eq_true] at h1 ⊢
      exact ⟨h.one h1.1, ih hs h1.2⟩

theorem a_box (hG : GlOk σ G) (H : HR σ B w0 h w) {o : Oper} {t : TypeId} {x : Operand} (ho : o.op = .box t x) {x' : Opd} (hx : trO G x = some x') (hf : FRo σ fr a.tmps [x']) (hone : (ev fr x').cells.all V.one = true)
    {id : Nat} (hid : h[id]? = some (.cells (ev fr x').cells false none)) (hn : σ id = none) : A1 P o a σ B w0 h w id fun id => .p (some (id, 0)) := by
  have hv := (ev_sound hG hx hf).cells
  refine ⟨_, .pointer (some ⟨w.heap.size, 0, none⟩), w.alloc (.cells (a.eval x).cells t), ?_, ?_, place_cells H hid hn (C := (a.eval x).cells) hone (by rw [hv.length]; simp) (fun j v hj => ?_) (by simp)⟩
  · simp only [execOp, ho]
    exact run_v (by simp [Instr.box, newVar, newRow])
  · exact VR.p (off := 0) (upd_at _ _ _)
  · obtain ⟨u, hu, hr⟩ := hv.get hj
    exact ⟨u, by simpa using hu, hr⟩

theorem a_alloc (H : HR σ B w0 h w) {o : Oper} {t : TypeId} (htl : t < 1000000) (ho : o.op = .alloc t) {z : List V} (hz : zeroT P t = some z) {id : Nat} (hid : h[id]? = some (.cells z false (some t))) (hn : σ id = none) : A1 P o a σ B w0 h w id fun id => .p (some (id, 0)) := by
  obtain ⟨i, zv, hi, hiz, hzr, hone⟩ := zeroT_some (σ := σ) hz
  refine ⟨_, .pointer (some ⟨w.heap.size, 0, none⟩), w.alloc (.cells zv.cells t), ?_, ?_, place_cells H hid hn (C := zv.cells) hone (by rw [hzr.length]; simp) (fun j v hj => ?_) (by simp) (fun t' e => by cases e; exact ⟨fun _ => ⟨rfl, by rw [hzr.length]; simp⟩, fun c => absurd htl (Nat.not_lt.2 c)⟩)⟩
  · simp only [execOp, ho]
    exact run_v (by simp [Instr.alloc, zeroValue, typeInfo, hi, hiz, newVar, newRow])
  · exact VR.p (off := 0) (upd_at _ _ _)
  · obtain ⟨u, hu, hr⟩ := hzr.get hj
    exact ⟨u, by simpa using hu, hr⟩

theorem a_bslice (hG : GlOk σ G) (H : HR σ B w0 h w) {o : Oper} {t e : TypeId} {len : Nat} {parts : Array (Nat × Operand)} (ho : o.op = .buildSlice t len parts) (hu : P.underlying t = some (.slice e)) {sz : Nat} (hsz : szT P e = some sz) {z : List V} (hz : zeroT P e = some z) (hzl : z.length = sz)
    {ps : List (Nat × Opd)} (hps : trParts G parts.toList = some ps) (hf : FRo σ fr a.tmps (ps.map (·.2))) (hle : len * sz ≤ 16777216) {cs : List V} (hfl : fillS (reps z len) (ps.map fun q => (q.1 * sz, sz, ev fr q.2)) = some cs) (hone : cs.all V.one = true)
    {id : Nat} (hid : h[id]? = some (.cells cs false none)) (hn : σ id = none) : A1 P o a σ B w0 h w id fun id => .sl (some (id, 0)) len (some len) sz := by
  obtain ⟨i, zv, hi, hiz, hzr, hzone⟩ := zeroT_some (σ := σ) hz
  subst hzl
  have hm := made_reps hzr len
  obtain ⟨us', e1, e2⟩ := fill_sound (fr := fr) (a := a) hG parts.toList (parts_build z.length hps) (by simpa [Function.comp_def] using hf) hm (cs := cs) (by simpa [Function.comp_def] using hfl)
  have hsl : cs.length = us'.length := e2.length
  have hcl : cs.length = len * z.length := by
    have : ∀ (l : List (Nat × Nat × V)) (c c' : List V), fillS c l = some c' → c'.length = c.length := by
      intro l
      induction l with
      | nil => intro c c' h; simp [fillS] at h; rw [h]
      | cons q l ih =>
        intro c c' h
        obtain ⟨o1, s1, v1⟩ := q
        simp only [fillS] at h
        split at h
        · rename_i hc
          rw [ih _ _ h]
          simp [splice]
          omega
        · cases h
    rw [this _ _ _ hfl, reps_length]
  refine ⟨⟨w.heap.size, 0, us'.toArray.size⟩, .slice (some ⟨w.heap.size, 0, none⟩) len len, w.alloc (.cells us'.toArray e), ?_, ?_, place_cells H hid hn (C := us'.toArray) hone (by simp [hsl]) (fun j v hj => ?_) (by simp)⟩
  · simp only [execOp, ho]
    refine run_v ?_
    have hg : ¬ (2 ^ 24 < len * z.length) := by omega
    have e1' : Instr.fill (fun i => some (i * z.length, z.length)) (madeCells zv.cells (len * z.length)) (parts.toList.map fun p => (p.1, a.eval p.2)) = some us'.toArray := by simpa using e1
    unfold Instr.buildSlice
    by_cases h0 : len * z.length = 0
    · have e0 : madeCells zv.cells (len * z.length) = #[] := by rw [h0]; simp [madeCells]
      rw [e0] at e1'
      simp only [Sem.run_bind, run_underlying hu, Result.andThen_ok, run_szT hsz, gt_iff_lt, hg, if_false, h0, if_true, Sem.run_pure, Array.toList_map]
      have er : ∀ f : Nat → Value, (Array.range 0).map f = #[] := fun f => by apply Array.ext'; simp
      simp only [er, e1']
      simp [newRow]
    · have e0 : (Array.range (len * z.length)).map (fun x => zv.cells[x % zv.cells.size]!) = madeCells zv.cells (len * z.length) := rfl
      have hzv : (zeroValue e).run P w = .ok zv w := by simp [zeroValue, typeInfo, hi, hiz]
      simp only [Sem.run_bind, run_underlying hu, Result.andThen_ok, run_szT hsz, gt_iff_lt, hg, if_false, h0, Sem.run_pure, hzv, Array.toList_map, e0]
      simp [e1', newRow]
  · refine VR.sl (upd_at _ _ _) (fun _ => rfl) ?_ (Nat.le_refl _) (fun k hk => by injection hk)
    simp [← hsl, hcl]
  · obtain ⟨u, hu, hr⟩ := e2.get hj
    exact ⟨u, by simpa using hu, hr⟩

theorem a_mkmap (H : HR σ B w0 h w) {o : Oper} {t : TypeId} (ho : o.op = .makeMap t none) {id : Nat} (hid : h[id]? = some (.map [])) (hn : σ id = none) : A1 P o a σ B w0 h w id fun id => .m (some id) := by
  refine ⟨⟨w.heap.size, 0, 0⟩, .map (some w.heap.size), w.alloc (.map #[] 0), ?_, VR.m (upd_at _ _ _), ?_⟩
  · simp only [execOp, ho]
    exact run_v (by simp only [Option.map_none]; exact run_makeMap t w)
  · have hp : (w.alloc (.map #[] 0)).heap = w.heap.push (.map #[] 0) := rfl
    refine H.place hid hn (by rw [hp]; simp) (fun k hk => by rw [hp, Array.getElem?_push, if_neg (Nat.ne_of_lt hk)]) (H.below.alloc H.base _) ?_
    exact ⟨H.base, #[], 0, by rw [hp]; simp, rfl, fun j e he => by simp at he⟩

theorem a_mkslice (hG : GlOk σ G) (H : HR σ B w0 h w) {o : Oper} {t e : TypeId} {l c : Operand} (ho : o.op = .makeSlice t l c) (hu : P.underlying t = some (.slice e)) {sz by_ : Nat} (hsz : szT P e = some sz) (hby : byT P e = some by_) {z : List V} (hz : zeroT P e = some z) (hzl : z.length = sz)
    {l' c' : Opd} (hl : trO G l = some l') (hc : trO G c = some c') (hf : FRo σ fr a.tmps [l', c']) {k k' : IntKind} {x y : Int} (hx : ev fr l' = .i k x) (hy : ev fr c' = .i k' y) (h1 : 0 ≤ x) (h2 : x ≤ y) (h3 : y ≤ 16777216) (h4 : (by_ : Int) * y ≤ 35184372088832)
    {id : Nat} (hid : h[id]? = some (.cells (reps z y.toNat) false none)) (hn : σ id = none) : A1 P o a σ B w0 h w id fun id => .sl (some (id, 0)) x.toNat (some y.toNat) sz := by
  obtain ⟨i, zv, hi, hiz, hzr, hzone⟩ := zeroT_some (σ := σ) hz
  have hv1 := ev_sound hG hl (hf.sub (by simp))
  have hv2 := ev_sound hG hc (hf.sub (by simp))
  rw [hx] at hv1
  rw [hy] at hv2
  have hx' : execOp a.eval o = (do pure (Next.value (← Instr.makeSlice t (a.eval l) (a.eval c)))) := by simp [execOp, ho]
  generalize a.eval l = u1 at hv1 hx'
  generalize a.eval c = u2 at hv2 hx'
  cases hv1
  cases hv2
  have hsz' := szT_some hsz
  obtain ⟨i', hi', hs'⟩ := hsz'
  rw [hi] at hi'
  injection hi' with hi'
  subst hi'
  have hb' : i.bytes = by_ := by unfold byT at hby; simp [hi] at hby; exact hby
  have hr := run_make (P := P) w t e i zv hu hi hiz k k' x y h1 h2 (by rw [hb']; omega) (by omega)
  have hm := made_reps hzr y.toNat
  rw [hzl] at hm
  rw [hs'] at hr
  have hmsz : (madeCells zv.cells (y.toNat * sz)).size = y.toNat * sz := size_madeCells _ _
  refine ⟨_, _, _, by rw [hx']; exact run_v hr, ?_, place_cells H hid hn (C := madeCells zv.cells (y.toNat * sz)) (reps_one hzone _) (by rw [hm.length]; simp) (fun j v hj => ?_) (by simp)⟩
  · refine VR.sl (upd_at _ _ _) (fun _ => rfl) ?_ (by omega) (fun k hk => by injection hk)
    simp [hmsz]
  · obtain ⟨u, hu, hr⟩ := hm.get hj
    exact ⟨u, by simpa using hu, hr⟩

theorem a_convSB (hG : GlOk σ G) (H : HR σ B w0 h w) {o : Oper} {src dst e : TypeId} {x : Operand} (ho : o.op = .convert src dst x) (h1 : P.underlying src = some .string) (h2 : P.underlying dst = some (.slice e)) (h3 : P.underlying e = some (.int .u8))
    {x' : Opd} (hx : trO G x = some x') (hf : FRo σ fr a.tmps [x']) {l : List UInt8} (hs : ev fr x' = .s l) {id : Nat} (hid : h[id]? = some (.cells (bytesV l) false none)) (hn : σ id = none) : A1 P o a σ B w0 h w id fun id => .sl (some (id, 0)) l.length none 1 := by
  have hv := ev_sound hG hx hf
  rw [hs] at hv
  have hx' : execOp a.eval o = (do pure (Next.value (← convert src dst (a.eval x)))) := by simp [execOp, ho]
  generalize a.eval x = u at hv hx'
  cases hv
  have hr := run_bytes_of_string (P := P) w src dst e ⟨l.toArray⟩ h1 h2 h3
  have e1 : (⟨l.toArray⟩ : ByteArray).size = l.length := by simp [ByteArray.size]
  rw [e1] at hr
  have hge : l.length ≤ grownCap w l.length 0 e := grownCap_ge w l.length 0 e
  generalize grownCap w l.length 0 e = cp at hr hge
  have hbs : (bytesRow ⟨l.toArray⟩ cp).size = cp := by simp [bytesRow, ByteArray.size]; omega
  refine ⟨⟨w.heap.size, 0, (bytesRow ⟨l.toArray⟩ cp).size⟩, _, _, by rw [hx']; exact run_v hr, ?_, place_cells H.drew hid hn (C := bytesRow ⟨l.toArray⟩ cp) ?_ (by rw [hbs]; simpa [bytesV] using hge) (fun j v hj => ?_) (fun j hj => ?_)⟩
  · refine VR.sl (l := ⟨w.heap.size, 0, (bytesRow ⟨l.toArray⟩ cp).size⟩) (upd_at _ _ _) (fun _ => rfl) ?_ hge (fun k hk => by cases hk)
    simp [hbs]
  · simp [bytesV, V.one]
  · simp only [bytesV, List.getElem?_map, Option.map_eq_some_iff] at hj
    obtain ⟨c, hc, rfl⟩ := hj
    refine ⟨.int .u8 c.toNat, ?_, .i _ _⟩
    have hlt := (List.getElem?_eq_some_iff.1 hc).1
    unfold bytesRow
    rw [Array.getElem?_append_left (by simpa using hlt)]
    simp [hc]
  · simp only [hbs] at hj ⊢
    simp; omega

theorem a_range (hG : GlOk σ G) (H : HR σ B w0 h w) {o : Oper} {t : TypeId} {x : Operand} (ho : o.op = .range t x) (hu : P.underlying t = some .string) {x' : Opd} (hx : trO G x = some x') (hf : FRo σ fr a.tmps [x']) {l : List UInt8} (hs : ev fr x' = .s l)
    {id : Nat} (hid : h[id]? = some (.str l 0)) (hn : σ id = none) : A1 P o a σ B w0 h w id fun id => .p (some (id, 0)) := by
  have hv := ev_sound hG hx hf
  rw [hs] at hv
  have hx' : execOp a.eval o = (do pure (Next.value (← Instr.range t (a.eval x)))) := by simp [execOp, ho]
  generalize a.eval x = u at hv hx'
  cases hv
  refine ⟨⟨w.heap.size, 0, 0⟩, .pointer (some ⟨w.heap.size, 0, none⟩), w.alloc (.stringIter ⟨l.toArray⟩ 0), ?_, VR.p (off := 0) (upd_at _ _ _), ?_⟩
  · rw [hx']
    exact run_v (by simp [Instr.range, run_underlying hu])
  · have hp : (w.alloc (.stringIter ⟨l.toArray⟩ 0)).heap = w.heap.push (.stringIter ⟨l.toArray⟩ 0) := rfl
    refine H.place hid hn (by rw [hp]; simp) (fun k hk => by rw [hp, Array.getElem?_push, if_neg (Nat.ne_of_lt hk)]) (H.below.alloc H.base _) ?_
    exact ⟨rfl, H.base, by rw [hp]; simp⟩

set_option maxHeartbeats 1000000 in
/-- OPERATIONS THAT MAKE AN OBJECT. -/
theorem alloc_sound (hG : GlOk σ G) (H : HR σ B w0 h w) {o : Oper} {ao : AOp} (ht : trOp P G o.op = some ao) (hf : FRo σ fr a.tmps ao.opds) {ob : Obj} {mk : Nat → V} (hs : allocS ao fr = some (ob, mk)) {id : Nat} (hid : h[id]? = some ob) (hn : σ id = none) :
    A1 P o a σ B w0 h w id mk := by
  have none_of : ∀ {ao : AOp}, ao.quiet = true → allocS ao fr = none := by
    intro ao hq; cases ao <;> first | rfl | simp [AOp.quiet, AOp.kd] at hq
  cases hop : o.op with
  | box t x =>
    rw [hop] at ht
    obtain ⟨y, hy, rfl⟩ := map1 ht
    simp only [allocS] at hs
    split at hs
    · obtain ⟨rfl, rfl⟩ := pair_inj hs
      exact a_box hG H hop hy hf (by assumption) hid hn
    · cases hs
  | alloc t =>
    rw [hop] at ht
    simp only [trOp] at ht
    split at ht
    · rename_i htl
      obtain ⟨z, hz, rfl⟩ := map1 ht
      obtain ⟨rfl, rfl⟩ := pair_inj hs
      exact a_alloc H htl hop hz hid hn
    · cases ht
  | buildSlice t n ps =>
    rw [hop] at ht
    simp only [trOp] at ht
    split at ht
    · rename_i e hu
      split at ht
      · rename_i sz z qs hsz hz hqs
        split at ht
        · rename_i hzl
          injection ht with ht; subst ht
          simp only [allocS] at hs
          split at hs
          · rename_i hle
            simp only [Option.bind_eq_some_iff] at hs
            obtain ⟨cs, hfl, hs⟩ := hs
            split at hs
            · rename_i hone
              obtain ⟨rfl, rfl⟩ := pair_inj hs
              exact a_bslice hG H hop hu hsz hz hzl hqs hf hle hfl hone hid hn
            · cases hs
          · cases hs
        · cases ht
      · cases ht
    · cases ht
  | makeMap t r =>
    rw [hop] at ht
    cases r <;> simp [trOp] at ht
    subst ht
    obtain ⟨rfl, rfl⟩ := pair_inj hs
    exact a_mkmap H hop hid hn
  | range t x =>
    rw [hop] at ht
    simp only [trOp] at ht
    split at ht
    · injection ht with ht; subst ht
      simp only [allocS] at hs
      split at hs
      · obtain ⟨rfl, rfl⟩ := pair_inj hs
        exact a_range hG H hop (by assumption) (by assumption) hf (by assumption) hid hn
      · cases hs
    · cases ht
  | next x s =>
    rw [hop] at ht
    simp only [trOp] at ht
    split at ht
    · obtain ⟨y, hy, rfl⟩ := map1 ht
      simp [allocS] at hs
    · cases ht
  | makeSlice t l c =>
    rw [hop] at ht
    simp only [trOp] at ht
    split at ht
    · rename_i e hu
      split at ht
      · rename_i sz by_ z l' c' hsz hby hz hl hc
        split at ht
        · rename_i hzl
          injection ht with ht; subst ht
          simp only [allocS] at hs
          split at hs
          · rename_i k x k' y hx hy
            split at hs
            · rename_i hcond
              obtain ⟨rfl, rfl⟩ := pair_inj hs
              exact a_mkslice hG H hop hu hsz hby hz hzl hl hc hf hx hy hcond.1 hcond.2.1 hcond.2.2.1 hcond.2.2.2 hid hn
            · cases hs
          · cases hs
        · cases ht
      · cases ht
    · cases ht
  | convert src dst x =>
    rw [hop] at ht
    simp only [trOp] at ht
    split at ht
    · injection ht with ht; subst ht; rw [none_of rfl] at hs; cases hs
    · injection ht with ht; subst ht; rw [none_of rfl] at hs; cases hs
    · split at ht
      · injection ht with ht; subst ht; rw [none_of rfl] at hs; cases hs
      · cases ht
    · rename_i e x' h1 h2 h3
      split at ht
      · injection ht with ht; subst ht
        simp only [allocS] at hs
        split at hs
        · split at hs
          · obtain ⟨rfl, rfl⟩ := pair_inj hs
            exact a_convSB hG H hop h1 h2 (by assumption) h3 hf (by assumption) hid hn
          · cases hs
        · cases hs
      · cases ht
    · cases ht
  | makeFunc fn first cs =>
    rw [hop] at ht
    cases fn with
    | func f =>
      simp only [trOp] at ht
      split at ht
      · obtain ⟨ys, hy, rfl⟩ := map1 ht
        rw [none_of rfl] at hs; cases hs
      · cases ht
    | _ => simp [trOp] at ht
  | _ =>
    have : allocS ao fr = none := by
      rw [hop] at ht
      cases ao <;> first | rfl | (exfalso; simp only [trOp, trBuiltin] at ht; (repeat' split at ht) <;> first | cases ht | (injection ht with ht; cases ht) | (obtain ⟨y, hy, ht⟩ := map1 ht; cases ht))
    rw [this] at hs
    cases hs

def W1 (P : Program) (o : Oper) (a : Act) (σ : Sg) (B : Nat) (w0 : World) (h : Heap) (w : World) (v : V) (h' : Heap) : Prop :=
  ∃ σ' u w', ((execOp a.eval o).run P w = .ok (.value u) w' ∨ ((execOp a.eval o).run P w = .ok .skip w' ∧ u = undef)) ∧ VR σ' v u ∧ HR σ' B w0 h' w' ∧ Ext σ σ' h.length h'.length

theorem undef_VR : VR σ un undef := VR.t .nil

theorem setCells_some {h h' : Heap} {id off : Nat} {us : List V} (hs : setCells h id off us = some h') : ∃ vs ty, h[id]? = some (.cells vs false ty) ∧ off + us.length ≤ vs.length ∧ h' = h.set id (.cells (splice vs off us) false ty) := by
  unfold setCells at hs
  split at hs
  · rename_i vs ty hh
    split at hs
    · injection hs with hs; exact ⟨vs, ty, hh, by assumption, hs.symm⟩
    · cases hs
  · cases hs

theorem splice_get (vs : List V) (off : Nat) (us : List V) (hle : off + us.length ≤ vs.length) (j : Nat) : (splice vs off us)[j]? = if j < off then vs[j]? else if j < off + us.length then us[j - off]? else vs[j]? := by
  unfold splice
  by_cases h1 : j < off
  · rw [if_pos h1, List.append_assoc, List.getElem?_append_left (by simp; omega)]
    simp [List.getElem?_take, h1]
  · rw [if_neg h1]
    by_cases h2 : j < off + us.length
    · rw [if_pos h2, List.getElem?_append_left (by simp; omega), List.getElem?_append_right (by simp; omega)]
      congr 1
      simp; omega
    · rw [if_neg h2, List.getElem?_append_right (by simp; omega), List.getElem?_drop]
      congr 1
      simp; omega

/-- Cells of an object are written. -/
theorem HR.setCells (H : HR σ B w0 h w) {id off : Nat} {us : List V} {vs : List Value} {h' : Heap} (hs : Am.setCells h id off us = some h') {l : Loc} (hl : σ id = some l) (hr : VRs σ us vs) (hone : us.all V.one = true) :
    (∀ j, j < vs.length → (w.cell? ⟨l.b, l.o + off + j, none⟩).isSome = true) ∧ (∀ j, j < vs.length → w.frozen? ⟨l.b, l.o + off + j, none⟩ = false) ∧ HR σ B w0 h' (w.setCells l.b (l.o + off) vs) ∧ h'.length = h.length := by
  obtain ⟨cs, ty, hh, hle, rfl⟩ := setCells_some hs
  obtain ⟨⟨T, h2, h2t⟩, h3, h4, h5⟩ := H.obj id _ l hh hl
  obtain ⟨hB, hz⟩ := h4 rfl
  have hlen := hr.length
  have hex : ∀ j, j < vs.length → (w.cell? ⟨l.b, l.o + off + j, none⟩).isSome = true := fun j hj => by
    have hv : cs[off + j]? = some (cs[off + j]'(by omega)) := List.getElem?_eq_getElem _
    obtain ⟨_, u, hu, _⟩ := h5 _ _ hv
    rw [Nat.add_assoc, hu]; rfl
  refine ⟨hex, fun j hj => hz _ (by omega), ?_, by simp⟩
  refine H.write hh hl rfl hB (size_setCells _ _ _ _) (fun k hk => heap_setCells _ _ _ _ _ hk) (below_setCells _ hB _ _ _ H.below) ?_
  refine ⟨⟨T, by rw [shape_setCells]; exact h2, fun t e => ⟨(h2t t e).1, by have := (h2t t e).2; rw [show (splice cs off us).length = cs.length by simp [splice]; omega]; exact this⟩⟩, by simp [splice]; omega, fun _ => ⟨hB, fun j hj => by rw [World.frozen?_setCells]; exact hz j hj⟩, fun j v hv => ?_⟩
  rw [splice_get cs off us hle] at hv
  split at hv
  · rename_i h1
    obtain ⟨ho, u, hu, hvr⟩ := h5 j v hv
    exact ⟨ho, u, by rw [World.cell?_setCells_out _ _ _ _ _ (fun _ _ => .inl (by simp; omega))]; exact hu, hvr⟩
  · rename_i h1
    split at hv
    · rename_i h2'
      obtain ⟨u, hu, hvr⟩ := hr.get hv
      refine ⟨?_, u, ?_, hvr⟩
      · rw [List.all_eq_true] at hone; exact hone v (List.mem_of_getElem? hv)
      · have := World.cell?_setCells_in l.b vs (l.o + off) w hex (j - off) (by omega)
        rw [show l.o + off + (j - off) = l.o + j by omega] at this
        rw [this]
        rw [List.getElem?_eq_getElem (by omega)] at hu
        exact hu
    · rename_i h2'
      obtain ⟨ho, u, hu, hvr⟩ := h5 j v hv
      exact ⟨ho, u, by rw [World.cell?_setCells_out _ _ _ _ _ (fun _ _ => .inr (by simp; omega))]; exact hu, hvr⟩

theorem w_store (hG : GlOk σ G) (H : HR σ B w0 h w) {o : Oper} {t : TypeId} {x y : Operand} (ho : o.op = .store t x y) {n : Nat} (hn : szT P t = some n) {x' y' : Opd} (hx : trO G x = some x') (hy : trO G y = some y') (hf : FRo σ fr a.tmps [x', y'])
    {v : V} {h' : Heap} (hs : opS (.store n x' y') fr h = some (v, h')) : W1 P o a σ B w0 h w v h' := by
  have hv1 := ev_sound hG hx (hf.sub (by simp))
  have hv2 := ev_sound hG hy (hf.sub (by simp))
  simp only [opS] at hs
  have hx' : execOp a.eval o = (do Instr.storeAt t (a.eval x) (a.eval y); pure Next.skip) := by simp [execOp, ho]
  generalize a.eval x = u1 at hv1 hx'
  generalize a.eval y = u2 at hv2 hx'
  generalize ev fr x' = p at hv1 hs
  generalize ev fr y' = q at hv2 hs
  split at hs
  · rename_i id off
    cases hv1 with
    | p hl =>
      rename_i l
      split at hs
      · rename_i hc
        obtain ⟨hc1, hc2⟩ := hc
        obtain ⟨h1, hs2, hh⟩ := map1 hs
        injection hh with e1 e2
        subst e1; subst e2
        obtain ⟨hex, hfz, HR', hlen⟩ := H.setCells hs2 hl hv2.cells hc2
        have hst := run_storeCells_cells (P := P) l.b (l.o + off) u2.cells.toList 0 w (by simpa using hex) (by simpa using hfz) (by have := one_all hv2.cells hc2; rw [List.all_eq_true] at this; exact this)
        have hsz : u2.cells.size = n := by rw [← hc1, hv2.cells.length]; simp
        refine ⟨σ, undef, _, .inr ⟨?_, rfl⟩, undef_VR, HR', Ext.refl _ _ _⟩
        rw [hx']
        refine run_u ?_
        simp only [Nat.add_zero] at hst
        simp [Instr.storeAt, Instr.sureAddr, storeVar, run_szT hn, hsz, hst]
      · cases hs
  · cases hs

theorem ints_same (m : Nat) : ∀ {l r : List V} {us vs : List Value}, intsEq l r = some true → VRs σ l us → VRs σ r vs → us.length = vs.length ∧ (vs.zip us).all (fun (x, y) => Instr.sameBits m x y) = true := by
  intro l
  induction l with
  | nil =>
    intro r us vs h hu hv
    cases r with
    | nil => cases hu; cases hv; exact ⟨rfl, rfl⟩
    | cons y r => simp [intsEq] at h
  | cons x l ih =>
    intro r us vs h hu hv
    cases r with
    | nil => cases x <;> simp [intsEq] at h
    | cons y r =>
      cases hu with
      | cons h1 h2 =>
        cases hv with
        | cons g1 g2 =>
          cases x <;> (try (simp [intsEq] at h; done))
          cases y <;> (try (simp [intsEq] at h; done))
          simp only [intsEq] at h
          split at h
          · rename_i hk
            subst hk
            split at h
            · rename_i hab
              obtain ⟨e1, e2⟩ := ih h h2 g2
              cases h1; cases g1
              have hab' := eq_of_beq hab
              subst hab'
              refine ⟨by simp [e1], ?_⟩
              simp only [List.zip_cons_cons, List.all_cons, Bool.and_eq_true]
              exact ⟨by cases m <;> simp [Instr.sameBits], e2⟩
            · cases h
          · cases h
theorem keyFit_same {kk : KeyK} {k : V} (h : keyFit kk k = true) {u u2 : Value} {k2 : V} (hu : VR σ k u) (hu2 : VR σ k2 u2) (he : keyEq k k2 = some true) (m : Nat) : Instr.sameBits (m + 1) u2 u = true := by
  cases kk with
  | arr n =>
    cases k <;> simp [keyFit] at h
    cases k2 <;> simp [keyEq] at he
    cases hu with
    | g h1 =>
      cases hu2 with
      | g h2 =>
        obtain ⟨e1, e2⟩ := ints_same m he h1 h2
        simp only [Instr.sameBits, List.size_toArray, Bool.and_eq_true, beq_iff_eq]
        exact ⟨e1.symm, e2⟩
  | _ => cases hu <;> simp [keyFit] at h <;> cases hu2 <;> simp [keyEq] at he <;> simp only [Instr.sameBits] <;> (try rw [bytes_beq]) <;> simp [he]

theorem find_key {k : V} : ∀ {es : List (V × V)} {n : Nat} {i : Nat} {v : V}, findK k es n = some (some (i, v)) → ∃ j e, i = n + j ∧ es[j]? = some e ∧ e.2 = v ∧ keyEq k e.1 = some true := by
  intro es
  induction es with
  | nil => intro n i v h; simp [findK] at h
  | cons e es ih =>
    intro n i v h
    simp only [findK] at h
    split at h
    · rename_i hq
      injection h with h
      injection h with h
      injection h with h1 h2
      exact ⟨0, e, h1.symm, rfl, h2, hq⟩
    · obtain ⟨j, e', h1, h2, h3, h4⟩ := ih h
      exact ⟨j + 1, e', by omega, by simpa using h2, h3, h4⟩
    · cases h

/-- A map's block is written. -/
theorem HR.setMap (H : HR σ B w0 h w) {id : Nat} {es es' : List (V × V)} (hid : h[id]? = some (.map es)) {l : Loc} (hl : σ id = some l) (hB : B ≤ l.b) {mes' : Array MapEntry} {ck : Nat} {mes : Array MapEntry} {ck0 : Nat} (hb : w.heap[l.b]? = some (.map mes ck0)) (hsz : mes'.size = es'.length)
    (hm : ∀ (j : Nat) (e : V × V), es'[j]? = some e → ∃ me : MapEntry, mes'[j]? = some me ∧ VR σ e.1 me.key ∧ VR σ e.2 me.val) :
    (setObj l.b (.map mes' ck)).run P w = .ok () { w with heap := w.heap.setIfInBounds l.b (.map mes' ck) } ∧ HR σ B w0 (h.set id (.map es')) { w with heap := w.heap.setIfInBounds l.b (.map mes' ck) } := by
  have hlt := H.lt _ _ hl
  refine ⟨by simp [setObj, Sem.run, hb], ?_⟩
  refine H.write hid hl rfl hB (by simp) (fun k hk => by simp [Array.getElem?_setIfInBounds, Ne.symm hk]) ⟨H.below.os, H.below.tape, H.below.output, by simpa using H.below.size, fun k hk => ?_⟩ ⟨hB, mes', ck, by simp [hlt], hsz, hm⟩
  have : l.b ≠ k := by omega
  simp only [Array.getElem?_setIfInBounds, this, if_false]
  exact H.below.block k hk

theorem w_mupd (hG : GlOk σ G) (H : HR σ B w0 h w) {o : Oper} {t kt e : TypeId} {m k x : Operand} (ho : o.op = .mapUpdate t m k x) (h1 : P.underlying t = some (.map kt e)) {kk : KeyK} (hkk : keyK P kt = some kk)
    {m' k' x' : Opd} (hm : trO G m = some m') (hk : trO G k = some k') (hx : trO G x = some x') (hf : FRo σ fr a.tmps [m', k', x']) {v : V} {h' : Heap} (hs : opS (.mupd kk m' k' x') fr h = some (v, h')) : W1 P o a σ B w0 h w v h' := by
  have hv1 := ev_sound hG hm (hf.sub (by simp))
  have hv2 := ev_sound hG hk (hf.sub (by simp))
  have hv3 := ev_sound hG hx (hf.sub (by simp))
  simp only [opS] at hs
  split at hs
  · cases hs
  rename_i hfit
  simp at hfit
  have hx' : execOp a.eval o = (do Instr.mapUpdate t (a.eval m) (a.eval k) (a.eval x); pure Next.skip) := by simp [execOp, ho]
  generalize a.eval m = u1 at hv1 hx'
  generalize a.eval k = u2 at hv2 hx'
  generalize a.eval x = u3 at hv3 hx'
  generalize ev fr m' = p at hv1 hs
  generalize ev fr k' = q at hv2 hs hfit
  generalize ev fr x' = z at hv3 hs
  split at hs
  · rename_i id
    cases hv1 with
    | m hl =>
      rename_i L
      split at hs
      · rename_i es he
        obtain ⟨hB, mes, ck, hb, hsz, hme⟩ := H.obj id _ L he hl
        have hm' : ∀ (j : Nat) (e : V × V), es[j]? = some e → ∃ me : MapEntry, mes.toList[j]? = some me ∧ VR σ e.1 me.key ∧ VR σ e.2 me.val := fun j e he => by
          obtain ⟨me, a1, a2⟩ := hme j e he
          exact ⟨me, by simpa using a1, a2⟩
        have hgo : (getObj L.b).run P w = .ok (.map mes ck) w := by simp [getObj, Sem.run, hb]
        split at hs
        · rename_i n rv hr
          obtain ⟨rfl, rfl⟩ := pair_inj hs
          obtain ⟨r', h3, h4⟩ := run_findKey (P := P) hkk hfit hv2 (by simpa using hsz) hm' hr w
          cases r' with
          | none => exact h4.elim
          | some r' =>
            obtain ⟨i', rv'⟩ := r'
            obtain ⟨hi, _, _, _, _⟩ := h4
            subst hi
            obtain ⟨j, e', hj, hej, _, hkeq⟩ := find_key hr
            simp at hj
            subst hj
            obtain ⟨me, hme1, hme2, hme3⟩ := hme _ _ hej
            have hstay : ∀ W : World, (Instr.keyThatStays me.key u2).run P W = .ok u2 W := fun W => by
              have := keyFit_same hfit hv2 hme2 hkeq 9999
              simp [Instr.keyThatStays, this]
            have hnl : n < mes.size := (Array.getElem?_eq_some_iff.1 hme1).1
            obtain ⟨hrun, HR'⟩ := H.setMap (P := P) (mes' := mes.modify n fun e => { e with key := u2, val := u3 }) (ck := ck) (es' := es.set n (q, z)) he hl hB hb (by simp [hsz]) (fun j e hj => by
              by_cases ej : j = n
              · subst ej
                rw [List.getElem?_set_self (by omega)] at hj
                injection hj with hj
                subst hj
                exact ⟨{ me with key := u2, val := u3 }, by simp [Array.getElem?_modify, hme1], hv2, hv3⟩
              · rw [List.getElem?_set_ne (fun c => ej c.symm)] at hj
                obtain ⟨me', b1, b2⟩ := hme j e hj
                exact ⟨me', by rw [Array.getElem?_modify, if_neg (fun c => ej c.symm)]; exact b1, b2⟩)
            refine ⟨σ, undef, _, .inr ⟨?_, rfl⟩, undef_VR, HR', Ext.refl _ _ _⟩
            rw [hx']
            refine run_u ?_
            rw [← hrun]
            simp [Instr.mapUpdate, run_underlying h1, hgo, run_checkKey hkk hfit hv2, h3, hme1, hstay]
        · rename_i hr
          obtain ⟨rfl, rfl⟩ := pair_inj hs
          obtain ⟨r', h3, h4⟩ := run_findKey (P := P) hkk hfit hv2 (by simpa using hsz) hm' hr w
          cases r' with
          | some r' => exact h4.elim
          | none =>
            obtain ⟨hrun, HR'⟩ := H.setMap (P := P) (mes' := mes.push { key := u2, val := u3, born := ck }) (ck := ck + 1) (es' := es ++ [(q, z)]) he hl hB hb (by simp [hsz]) (fun j e hj => by
              by_cases ej : j < es.length
              · rw [List.getElem?_append_left ej] at hj
                obtain ⟨me', b1, b2⟩ := hme j e hj
                exact ⟨me', by rw [Array.getElem?_push, if_neg (by omega)]; exact b1, b2⟩
              · have hj' := (List.getElem?_eq_some_iff.1 hj).1
                simp at hj'
                have : j = es.length := by omega
                subst this
                simp at hj
                subst hj
                exact ⟨{ key := u2, val := u3, born := ck }, by rw [Array.getElem?_push, if_pos hsz.symm], hv2, hv3⟩)
            refine ⟨σ, undef, _, .inr ⟨?_, rfl⟩, undef_VR, HR', Ext.refl _ _ _⟩
            rw [hx']
            refine run_u ?_
            rw [← hrun]
            simp [Instr.mapUpdate, run_underlying h1, hgo, run_checkKey hkk hfit hv2, h3]
        · cases hs
      · cases hs
  · cases hs

theorem w_builtin {o : Oper} {c : Call} {b : Builtin} (ho : o.op = .call c) (hc : c.callee = .builtin b) {s : Sem Value} (hv : ∀ consts, builtin b c.argTypes o.type consts (c.args.map a.eval) = (do pure (.value (← s)))) {u : Value} {w' : World} (h : s.run P w = .ok u w') :
    (execOp a.eval o).run P w = .ok (.value u) w' := by
  have hx : execOp a.eval o = (do pure (Next.value (← s))) := by
    simp only [execOp, ho, resolve, hc]
    simp [invoke, hv]
  rw [hx]; exact run_v h

theorem w_delete (hG : GlOk σ G) (H : HR σ B w0 h w) {o : Oper} {c : Call} (ho : o.op = .call c) (hc : c.callee = .builtin .delete) {t kt e : TypeId} {ts : List TypeId} (hts : c.argTypes.toList = t :: ts) (h1 : P.underlying t = some (.map kt e)) {kk : KeyK} (hkk : keyK P kt = some kk)
    {m' k' : Opd} (hx : trOs G c.args.toList = some [m', k']) (hf : FRo σ fr a.tmps [m', k']) {v : V} {h' : Heap} (hs : opS (.delete kk m' k') fr h = some (v, h')) : W1 P o a σ B w0 h w v h' := by
  have hv := evs_sound hG hx hf
  have e1 : c.argTypes = (t :: ts).toArray := by rw [← hts]
  have e2 : c.args.map a.eval = (c.args.toList.map a.eval).toArray := by rw [← Array.toList_map]
  have hw : ∀ {u : Value} {w' : World}, (Builtin.delete_ c.argTypes o.type (c.args.map a.eval)).run P w = .ok u w' → (execOp a.eval o).run P w = .ok (.value u) w' := fun h => w_builtin ho hc (fun _ => rfl) h
  rw [e1, e2] at hw
  generalize c.args.toList.map a.eval = us at hv hw
  simp only [List.map_cons, List.map_nil] at hv
  simp only [opS] at hs
  split at hs
  · cases hs
  rename_i hfit
  simp at hfit
  cases hv with
  | cons hv1 hv =>
    rename_i u1 us
    cases hv with
    | cons hv2 hv =>
      rename_i u2 us
      cases hv
      generalize ev fr m' = p at hv1 hs
      generalize ev fr k' = q at hv2 hs hfit
      split at hs
      · obtain ⟨rfl, rfl⟩ := pair_inj hs
        cases hv1
        refine ⟨σ, undef, w, .inl (hw ?_), undef_VR, H, Ext.refl _ _ _⟩
        simp [Builtin.delete_, run_underlying h1, run_checkKey hkk hfit hv2]
        rfl
      · rename_i id
        cases hv1 with
        | m hl =>
          rename_i L
          split at hs
          · rename_i es he
            obtain ⟨hB, mes, ck, hb, hsz, hme⟩ := H.obj id _ L he hl
            have hm' : ∀ (j : Nat) (e : V × V), es[j]? = some e → ∃ me : MapEntry, mes.toList[j]? = some me ∧ VR σ e.1 me.key ∧ VR σ e.2 me.val := fun j e he => by
              obtain ⟨me, a1, a2⟩ := hme j e he
              exact ⟨me, by simpa using a1, a2⟩
            have hgo : (getObj L.b).run P w = .ok (.map mes ck) w := by simp [getObj, Sem.run, hb]
            split at hs
            · rename_i n rv hr
              obtain ⟨rfl, rfl⟩ := pair_inj hs
              obtain ⟨r', h3, h4⟩ := run_findKey (P := P) hkk hfit hv2 (by simpa using hsz) hm' hr w
              cases r' with
              | none => exact h4.elim
              | some r' =>
                obtain ⟨i', rv'⟩ := r'
                obtain ⟨hi, _, jj, hjj, hjl⟩ := h4
                subst hi
                have hnl : n < mes.size := by omega
                have hsz5 : (mes.eraseIdxIfInBounds n).size = (es.eraseIdx n).length := by
                  have h5 : n < es.length := by omega
                  rw [Array.eraseIdxIfInBounds, dif_pos hnl]
                  simp [List.length_eraseIdx, h5, hsz]
                obtain ⟨hrun, HR'⟩ := H.setMap (P := P) (mes' := mes.eraseIdxIfInBounds n) (ck := ck) (es' := es.eraseIdx n) he hl hB hb hsz5 (fun j e hj => by
                  rw [List.getElem?_eraseIdx] at hj
                  simp only [Array.eraseIdxIfInBounds, hnl, dif_pos]
                  split at hj
                  · rename_i hlt
                    obtain ⟨me', b1, b2⟩ := hme j e hj
                    exact ⟨me', by rw [Array.getElem?_eraseIdx, if_pos hlt]; exact b1, b2⟩
                  · rename_i hlt
                    obtain ⟨me', b1, b2⟩ := hme (j + 1) e hj
                    exact ⟨me', by rw [Array.getElem?_eraseIdx, if_neg hlt]; exact b1, b2⟩)
                refine ⟨σ, undef, _, .inl (hw ?_), undef_VR, HR', Ext.refl _ _ _⟩
                simp [Builtin.delete_, run_underlying h1, hgo, run_checkKey hkk hfit hv2, h3, hrun]
                rfl
            · rename_i hr
              obtain ⟨rfl, rfl⟩ := pair_inj hs
              obtain ⟨r', h3, h4⟩ := run_findKey (P := P) hkk hfit hv2 (by simpa using hsz) hm' hr w
              cases r' with
              | some r' => exact h4.elim
              | none =>
                obtain ⟨hrun, HR'⟩ := H.setMap (P := P) (mes' := mes) (ck := ck) (es' := es) he hl hB hb hsz hme
                refine ⟨σ, undef, { w with heap := w.heap.setIfInBounds L.b (.map mes ck) }, .inl (hw ?_), undef_VR, ?_, Ext.refl _ _ _⟩
                · simp [Builtin.delete_, run_underlying h1, hgo, run_checkKey hkk hfit hv2, h3, hrun]
                  rfl
                · have e3 : ∀ h : Heap, h[id]? = some (.map es) → h.set id (.map es) = h := by
                    intro h he
                    apply List.ext_getElem?
                    intro i
                    by_cases ei : i = id
                    · subst ei; rw [List.getElem?_set_self (List.getElem?_eq_some_iff.1 he).1, he]
                    · rw [List.getElem?_set_ne (fun c => ei c.symm)]
                  rw [e3 _ he] at HR'
                  exact HR'
            · cases hs
          · cases hs
      · cases hs

theorem bytesV_src (l : List UInt8) : VRs σ (bytesV l) (byteCells ⟨l.toArray⟩) := by
  unfold bytesV byteCells
  simp only
  induction l with
  | nil => exact .nil
  | cons c l ih => simp only [List.map_cons]; exact .cons (.i _ _) ih

theorem appSrc_sound (H : HR σ B w0 h w) {str : Bool} {sz : Nat} {y : V} {n : Nat} {news : List V} (hs : appSrc h str sz y = some (n, news)) {u : Value} (hv : VR σ y u) {tx : TypeId} (hk : if str then P.underlying tx = some .string else ∃ e', P.underlying tx = some (.slice e')) :
    ∃ vs, VRs σ news vs ∧ Src P sz tx u n vs w ∧ news.all V.one = true := by
  cases hv <;> (try (simp only [appSrc, reduceCtorEq] at hs; done))
  case sl0 z =>
    cases str <;> simp [appSrc] at hs hk
    obtain ⟨rfl, rfl⟩ := hs
    obtain ⟨e', hk⟩ := hk
    exact ⟨[], .nil, Src.ofNil w hk 0, rfl⟩
  case sl id off len z cap l o' c hl ho' hn hle hc =>
    cases str with
    | true => simp [appSrc] at hs
    | false =>
      simp only [Bool.false_eq_true, if_false] at hk
      obtain ⟨e', hk⟩ := hk
      simp only [appSrc, Bool.false_eq_true, if_false] at hs
      split at hs
      · rename_i hz
        subst hz
        obtain ⟨cs, hg, hh⟩ := map1 hs
        injection hh with e1 e2
        subst e1; subst e2
        obtain ⟨hlen, us, hr, hul, hone, hcell⟩ := H.read hg hl
        refine ⟨us, hr, Src.ofSlice w hk _ _ _ _ hul (fun j u hu => ?_) (by have := one_all hr hone; rw [List.all_eq_true] at this; exact this), hone⟩
        by_cases h0 : len = 0
        · subst h0; simp at hul; subst hul; simp at hu
        · have := ho' (.inl (by omega))
          subst this
          rw [add0]
          exact hcell j u hu
      · cases hs
  case s l =>
    cases str with
    | false => simp [appSrc] at hs
    | true =>
      simp only [if_true] at hk
      simp only [appSrc, true_and] at hs
      split at hs
      · rename_i hz
        subst hz
        injection hs with hs
        injection hs with e1 e2
        subst e1; subst e2
        have e1 : (⟨l.toArray⟩ : ByteArray).size = l.length := by simp [ByteArray.size]
        have := Src.ofString (P := P) w hk ⟨l.toArray⟩
        rw [e1] at this
        exact ⟨_, bytesV_src l, this, by simp [bytesV, V.one]⟩
      · cases hs

theorem firstCells_old (H : HR σ B w0 h w) {id off len sz : Nat} {olds : List V} (hg : getCells h id off (len * sz) = some olds) {l : Loc} (hl : σ id = some l) {o' c : Nat} (ho : 0 < len → o' = l.o + off) :
    ∃ us, VRs σ olds us ∧ olds.all V.one = true ∧ (Builtin.firstCells sz len (.slice (some ⟨l.b, o', none⟩) len c)).run P w.drew = .ok us.toArray w.drew := by
  obtain ⟨hlen, us, hr, hul, hone, hcell⟩ := H.read hg hl
  refine ⟨us, hr, hone, run_firstCells_some w.drew sz len _ len c us hul (fun j u hu => ?_)⟩
  by_cases h0 : len = 0
  · subst h0; simp at hul; subst hul; simp at hu
  · have := ho (by omega)
    subst this
    rw [add0]
    exact hcell j u hu

theorem h63_of {a b : Nat} (h : a + b ≤ 35184372088832) : ((a + b : Nat) : Int) ≤ 9223372036854775807 := by omega

theorem tagOf_or {tg : Option Nat} {e : Nat} (htg : tg = none ∨ tg = some e) {h : Heap} {id off len : Nat} : tagOf tg h id off len = none ∨ tagOf tg h id off len = some e := by
  rcases htg with rfl | rfl
  · exact .inl rfl
  · unfold tagOf
    simp only
    split
    · split
      · exact .inr rfl
      · exact .inl rfl
    · exact .inl rfl
theorem tagOf_some {tg : Option Nat} {h : Heap} {id off len t : Nat} {cs : List V} {ro : Bool} {ty : Option Nat} (hid : h[id]? = some (.cells cs ro ty)) (he : tagOf tg h id off len = some t) : ty = some t ∧ off = 0 ∧ 0 < len := by
  unfold tagOf at he
  split at he
  · cases he
  · rw [hid] at he
    split at he
    · rename_i e _ _ t' ho
      injection ho with ho
      injection ho with _ _ ho
      split at he
      · rename_i hc
        injection he with he
        subst he
        exact ⟨by rw [ho, hc.1], hc.2.1, hc.2.2⟩
      · cases he
    · cases he

theorem w_append (hG : GlOk σ G) (H : HR σ B w0 h w) {o : Oper} {c : Call} (ho : o.op = .call c) (hc : c.callee = .builtin .append) {t tx e : TypeId} (hts : c.argTypes.toList = [t, tx]) (h1 : P.underlying t = some (.slice e)) {str : Bool} (h2 : if str then P.underlying tx = some .string else ∃ e', P.underlying tx = some (.slice e'))
    {sz by_ : Nat} (hsz : szT P e = some sz) (hby : byT P e = some by_) (h0 : 0 < sz) (hb0 : 0 < by_) {z : Value} (hz : zeroV P e = some z) (hzs : z.cells.size = sz) {x' y' : Opd} (hx : trOs G c.args.toList = some [x', y']) (hf : FRo σ fr a.tmps [x', y'])
    {v : V} {h' : Heap} {tg : Option Nat} (htg : tg = none ∨ tg = some (e + 1000000)) (hs : appendG tg h str sz by_ (ev fr x') (ev fr y') = some (v, h')) : W1 P o a σ B w0 h w v h' := by
  have hv := evs_sound hG hx hf
  have e1 : c.argTypes = #[t, tx] := by rw [show c.argTypes = c.argTypes.toList.toArray by simp, hts]
  have e2 : c.args.map a.eval = (c.args.toList.map a.eval).toArray := by rw [← Array.toList_map]
  have hw : ∀ {u : Value} {w' : World}, (Builtin.append_ c.argTypes o.type (c.args.map a.eval)).run P w = .ok u w' → (execOp a.eval o).run P w = .ok (.value u) w' := fun h => w_builtin ho hc (fun _ => rfl) h
  rw [e1, e2] at hw
  generalize c.args.toList.map a.eval = us at hv hw
  simp only [List.map_cons, List.map_nil] at hv
  obtain ⟨i, hi, his⟩ := szT_some hsz
  have hib : i.bytes = by_ := by unfold byT at hby; simp [hi] at hby; exact hby
  have hiz : i.zero = some z := by unfold zeroV at hz; simpa [hi] using hz
  subst his
  subst hib
  simp only [appendG] at hs
  cases hv with
  | cons hv1 hv =>
    rename_i u1 us
    cases hv with
    | cons hv2 hv =>
      rename_i u2 us
      cases hv
      generalize ev fr x' = p at hv1 hs
      generalize ev fr y' = q at hv2 hs
      have hv1' := hv1
      split at hs
      · rename_i A len cap zz
        split at hs
        · cases hs
        rename_i n news hsrc
        obtain ⟨vs, hnr, hSrc, hnone⟩ := appSrc_sound H hsrc hv2 (tx := tx) h2
        have hnl : news.length = n * i.size := by rw [hnr.length]; exact hSrc.newsLen
        split at hs
        · rename_i hn0
          subst hn0
          obtain ⟨rfl, rfl⟩ := pair_inj hs
          have : vs = [] := List.eq_nil_of_length_eq_zero (by rw [hSrc.newsLen]; simp)
          subst this
          cases hv1 with
          | sl0 => exact ⟨σ, _, w, .inl (hw (run_append_nothing w t tx _ e i h1 hi none 0 0 (Nat.le_refl _) u2 hSrc)), .sl0 _, H, Ext.refl _ _ _⟩
          | sl hl hoo hn hle hcc => exact ⟨σ, _, w, .inl (hw (run_append_nothing w t tx _ e i h1 hi _ _ _ hle u2 hSrc)), hv1', H, Ext.refl _ _ _⟩
        rename_i hn0
        split at hs
        · cases hs
        rename_i hbig
        have hbig1 : (len + n) * i.bytes ≤ 35184372088832 := by omega
        have hbig2 : len + n ≤ 35184372088832 := by omega
        -- a new row
        have grow : ∀ {base : Option Addr} {cp : Nat} {olds : List V} {ous : List Value}, VRs σ olds ous → olds.all V.one = true → olds.length = len * i.size → (Builtin.firstCells i.size len (.slice base len cp)).run P w.drew = .ok ous.toArray w.drew → cp < len + n →
            ∀ {H1 : Heap} {tg2 : Option Nat}, (tg2 = none ∨ tg2 = some (e + 1000000)) → HR σ B w0 H1 w → H1.length = h.length →
            ∃ σ' u w', (Builtin.append_ #[t, tx] o.type #[.slice base len cp, u2]).run P w = .ok u w' ∧ VR σ' (.sl (some (h.length, 0)) (len + n) none i.size) u ∧ HR σ' B w0 (H1 ++ [.cells (olds ++ news) false tg2]) w' ∧ Ext σ σ' h.length (h.length + 1) := by
          intro base cp olds ous hor hoone hol hfc hlt H1 tg2 htg2 HH hlen
          have hrun := run_append_grow_src (P := P) w t tx o.type e i z h1 hi hiz base len cp ous hfc u2 n vs hSrc hlt (h63_of hbig2) (growslice_fits hlt (by omega))
          have hge : len + n ≤ grownCap w (len + n) cp e := grownCap_ge w _ _ e
          generalize grownCap w (len + n) cp e = gc at hrun hge
          have hlen1 : (ous ++ vs).length = (len + n) * i.size := by rw [List.length_append, ← hor.length, ← hnr.length, hol, hnl, Nat.add_mul]
          have hC : ((ous ++ vs).toArray ++ Builtin.zeroCells z.cells (gc - (len + n))).size = gc * i.size := by
            rw [Array.size_append]
            simp only [List.size_toArray, hlen1, Builtin.zeroCells, Array.size_map, Array.size_range, hzs]
            rw [← Nat.add_mul]; congr 1; omega
          have hn2 : σ h.length = none := by
            cases hq : σ h.length with
            | none => rfl
            | some x => have := HH.dom _ _ hq; omega
          have HP := place_cells (w := w.drew) (C := (ous ++ vs).toArray ++ Builtin.zeroCells z.cells (gc - (len + n))) (T := e) (fz := (0, 0)) (id := h.length) (cs := olds ++ news) (ty := tg2) (HH.more [.cells (olds ++ news) false tg2]).drew (by rw [List.getElem?_append_right (by omega)]; simp [hlen]) hn2 (by simp only [List.all_append, hoone, hnone, Bool.and_self]) (by rw [hC, List.length_append, hol, hnl, ← Nat.add_mul]; exact Nat.mul_le_mul_right _ hge) (fun j v hj => by
            obtain ⟨u, hu, hr⟩ := (hor.app hnr).get hj
            refine ⟨u, ?_, hr⟩
            have : j < (ous ++ vs).length := (List.getElem?_eq_some_iff.1 hu).1
            rw [Array.getElem?_append_left (by simpa using this)]
            simpa using hu) (by simp) (fun t et => by
              rcases htg2 with h | h <;> rw [h] at et <;> cases et
              exact ⟨fun hlt => absurd hlt (by omega), fun _ => rfl⟩)
          refine ⟨_, _, _, hrun, ?_, HP, ⟨upd_le _ hn2, fun k hk => upd_other (by omega)⟩⟩
          refine VR.sl (upd_at _ _ _) (fun _ => rfl) ?_ hge (fun k hk => by cases hk)
          rw [hC]; simp
        split at hs
        · split at hs
          · rename_i hlen0
            subst hlen0
            obtain ⟨rfl, rfl⟩ := pair_inj hs
            cases hv1 with
            | sl0 =>
              obtain ⟨σ', u, w', r1, r2, r3, r4⟩ := grow (base := none) (cp := 0) (olds := []) (ous := []) .nil rfl (by simp) (run_firstCells_none w.drew i.size 0 0 0) (by omega) htg H rfl
              refine ⟨σ', u, w', .inl (hw r1), by simpa using r2, r3, by simpa using r4⟩
          · cases hs
        · rename_i id off
          split at hs
          · cases hs
          rename_i hzz
          have hzz' : zz = i.size := by omega
          subst hzz'
          split at hs
          · cases hs
          rename_i olds hgo
          cases hv1 with
          | sl hl hoo hn hle hcc =>
            rename_i L o' cp
            have hol := (H.read hgo hl).1
            obtain ⟨ous, hor, hoone, hfc⟩ := firstCells_old (P := P) H hgo hl (o' := o') (c := cp) (fun hp => hoo (.inl hp))
            split at hs
            · rename_i k
              have hck := hcc k rfl
              subst hck
              split at hs
              · rename_i hroom
                obtain ⟨h1', hset, hh⟩ := map1 hs
                injection hh with e3 e4
                subst e3; subst e4
                have ho' := hoo (.inr ⟨_, rfl, by omega⟩)
                subst ho'
                obtain ⟨hex, hfz, HR', hlen⟩ := H.setCells hset hl hnr hnone
                have hrun := run_append_room_src (P := P) w t tx o.type e i h1 hi L.b (L.o + off) len cp u2 n vs hSrc hroom (fun j hj => by have := hex j hj; rwa [show L.o + off + len * i.size + j = L.o + (off + len * i.size) + j by omega]) (fun j hj => by have := hfz j hj; rwa [show L.o + off + len * i.size + j = L.o + (off + len * i.size) + j by omega])
                rw [show L.o + off + len * i.size = L.o + (off + len * i.size) by omega] at hrun
                exact ⟨σ, _, _, .inl (hw hrun), .sl hl (fun _ => rfl) hn hroom hcc, HR', by rw [hlen]; exact Ext.refl _ _ _⟩
              · rename_i hroom
                obtain ⟨rfl, rfl⟩ := pair_inj hs
                obtain ⟨σ', u, w', r1, r2, r3, r4⟩ := grow hor hoone hol hfc (by omega) htg H rfl
                exact ⟨σ', u, w', .inl (hw r1), r2, r3, by simpa using r4⟩
            · split at hs
              · rename_i hrw
                obtain ⟨rfl, rfl⟩ := pair_inj hs
                have hobj : ∃ cs ty, h[id]? = some (.cells cs false ty) := by
                  unfold rwOk at hrw
                  split at hrw
                  · exact ⟨_, _, by assumption⟩
                  · cases hrw
                obtain ⟨cs, ty, hid⟩ := hobj
                by_cases hroom : len + n ≤ cp
                · obtain ⟨⟨T, hsh, hshT⟩, h3, h4, h5⟩ := H.obj id _ L hid hl
                  obtain ⟨hB, hz⟩ := h4 rfl
                  have hmul : (len + n) * i.size ≤ cp * i.size := Nat.mul_le_mul_right _ hroom
                  have hvl : vs.length = n * i.size := hSrc.newsLen
                  have hex : ∀ j, j < vs.length → (w.cell? ⟨L.b, o' + len * i.size + j, none⟩).isSome = true := fun j hj => by
                    obtain ⟨u, hu⟩ := shape_cell hsh (j := o' + len * i.size + j) (by rw [Nat.add_mul] at hmul; omega)
                    rw [hu]; rfl
                  have hrun := run_append_room_src (P := P) w t tx o.type e i h1 hi L.b o' len cp u2 n vs hSrc hroom hex (fun j hj => hz _ (by rw [Nat.add_mul] at hmul; omega))
                  have hol' : olds.length = ous.length := hor.length
                  have hn2 : σ h.length = none := by
                    cases hq : σ h.length with
                    | none => rfl
                    | some x => have := H.dom _ _ hq; omega
                  have HT := H.take (id' := h.length) (o' := .cells (olds ++ news) false (tagOf tg h id off len)) (l' := ⟨L.b, o', L.n⟩) (w' := w.setCells L.b (o' + len * i.size) vs) hid hl rfl hB rfl (size_setCells _ _ _ _) (fun k hk => heap_setCells _ _ _ _ _ hk) (below_setCells _ hB _ _ _ H.below) rfl (by
                    refine ⟨⟨T, by rw [shape_setCells]; exact hsh, fun t et => by
                      obtain ⟨q1, q2, q3⟩ := tagOf_some hid et
                      obtain ⟨q4, q5⟩ := hshT t q1
                      have q6 : 1000000 ≤ t := by
                        rcases tagOf_or htg (h := h) (id := id) (off := off) (len := len) with q | q
                        · rw [q] at et; cases et
                        · rw [q] at et; injection et with et; rw [← et]; exact Nat.le_add_left _ _
                      exact ⟨by rw [hoo (.inl q3), q4, q2], fun c => absurd c (Nat.not_lt.2 q6), q5.2⟩⟩, ?_, fun _ => ⟨hB, fun j hj => by rw [World.frozen?_setCells]; exact hz j hj⟩, fun j v hj => ?_⟩
                    · simp only [List.length_append, hol, hnl]; rw [Nat.add_mul] at hmul; omega
                    · refine ⟨?_, ?_⟩
                      · have hall : (olds ++ news).all V.one = true := by simp only [List.all_append, hoone, hnone, Bool.and_self]
                        rw [List.all_eq_true] at hall
                        exact hall v (List.mem_of_getElem? hj)
                      · by_cases hjl : j < olds.length
                        · rw [List.getElem?_append_left hjl] at hj
                          obtain ⟨_, us2, hr2, hul2, _, hcell2⟩ := H.read hgo hl
                          obtain ⟨u, hu, hvr⟩ := hr2.get hj
                          have hlen0 : 0 < len := by
                            rcases Nat.eq_zero_or_pos len with e5 | e5
                            · subst e5; simp at hol; omega
                            · exact e5
                          have ho2 := hoo (.inl hlen0)
                          refine ⟨u, ?_, hvr.mono (upd_le _ hn2)⟩
                          rw [World.cell?_setCells_out _ _ _ _ _ (fun _ _ => .inl (by simp; omega)), ← hcell2 j u hu, ho2]
                        · rw [List.getElem?_append_right (by omega)] at hj
                          obtain ⟨u, hu, hvr⟩ := hnr.get hj
                          refine ⟨u, ?_, hvr.mono (upd_le _ hn2)⟩
                          have hjv : j - olds.length < vs.length := (List.getElem?_eq_some_iff.1 hu).1
                          have := World.cell?_setCells_in L.b vs (o' + len * i.size) w hex (j - olds.length) hjv
                          rw [show o' + len * i.size + (j - olds.length) = o' + j by omega] at this
                          rw [this]
                          rw [List.getElem?_eq_getElem hjv] at hu
                          exact hu)
                  refine ⟨_, _, _, .inl (hw hrun), VR.sl (l := ⟨L.b, o', L.n⟩) (upd_at _ _ _) (fun _ => rfl) hn hroom (fun k hk => by cases hk), HT, ⟨upd_le _ hn2, fun k hk => upd_other ?_⟩⟩
                  simp at hk; omega
                · obtain ⟨σ', u, w', r1, r2, r3, r4⟩ := grow hor hoone hol hfc (by omega) (tg2 := tagOf tg h id off len) (tagOf_or htg) (H.kill id) (by simp)
                  exact ⟨σ', u, w', .inl (hw r1), r2, r3, by simpa using r4⟩
              · cases hs
      · cases hs

theorem w_next (hG : GlOk σ G) (H : HR σ B w0 h w) {o : Oper} {x : Operand} (ho : o.op = .next x true) {x' : Opd} (hx : trO G x = some x') (hf : FRo σ fr a.tmps [x']) {v : V} {h' : Heap} (hs : opS (.next x') fr h = some (v, h')) : W1 P o a σ B w0 h w v h' := by
  have hv := ev_sound hG hx hf
  simp only [opS] at hs
  have hx' : execOp a.eval o = (do pure (Next.value (← Instr.next (a.eval x) true o.type))) := by simp [execOp, ho]
  generalize a.eval x = u at hv hx'
  generalize ev fr x' = p at hv hs
  split at hs
  · rename_i id
    cases hv with
    | p hl =>
      rename_i L
      split at hs
      · rename_i l pos he
        obtain ⟨hL0, hB, hb⟩ := H.obj id _ L he hl
        have hgo : (getObj L.b).run P w = .ok (.stringIter ⟨l.toArray⟩ pos) w := by simp [getObj, Sem.run, hb]
        have hsz : (⟨l.toArray⟩ : ByteArray).size = l.length := by simp [ByteArray.size]
        split at hs
        · rename_i hlt
          obtain ⟨rfl, rfl⟩ := pair_inj hs
          have hlt' : pos < (⟨l.toArray⟩ : ByteArray).size := by rw [hsz]; exact hlt
          have hbl := H.lt _ _ hl
          refine ⟨σ, .tuple #[.bool true, .int .i64 pos, .int .i32 (Utf8.decode ⟨l.toArray⟩ pos).1], { w with heap := w.heap.setIfInBounds L.b (.stringIter ⟨l.toArray⟩ (pos + (Utf8.decode ⟨l.toArray⟩ pos).2)) }, .inl ?_,
            .t (.cons (.b _) (.cons (.i _ _) (.cons (.i _ _) .nil))), ?_, by simpa using Ext.refl σ h.length h.length⟩
          · rw [hx']
            refine run_v ?_
            simp [Instr.next, hL0, hgo, hlt', setObj, Sem.run, hb, goInt]
          · refine H.write he hl rfl hB (by simp) (fun k hk => by simp [Array.getElem?_setIfInBounds, Ne.symm hk]) ⟨H.below.os, H.below.tape, H.below.output, by simpa using H.below.size, fun k hk => ?_⟩ ⟨hL0, hB, by simp [hbl]⟩
            have : L.b ≠ k := by omega
            simp only [Array.getElem?_setIfInBounds, this, if_false]
            exact H.below.block k hk
        · rename_i hge
          obtain ⟨rfl, rfl⟩ := pair_inj hs
          have hge' : ¬ pos < (⟨l.toArray⟩ : ByteArray).size := by rw [hsz]; exact hge
          refine ⟨σ, .tuple #[.bool false], w, .inl ?_, .t (.cons (.b _) .nil), H, Ext.refl _ _ _⟩
          rw [hx']
          refine run_v ?_
          simp [Instr.next, hL0, hgo, hge']
      · cases hs
  · cases hs

set_option maxHeartbeats 1000000 in
/-- OPERATIONS THAT WRITE. -/
theorem copy_cells (H : HR σ B w0 h w) {id off n sz : Nat} {olds : List V} (hg : getCells h id off (n * sz) = some olds) {l : Loc} (hl : σ id = some l) {o' len c : Nat} (ho : 0 < n → o' = l.o + off) :
    ∃ us, VRs σ olds us ∧ olds.all V.one = true ∧ us.length = n * sz ∧ (Builtin.firstCells sz n (.slice (some ⟨l.b, o', none⟩) len c)).run P w = .ok us.toArray w := by
  obtain ⟨hlen, us, hr, hul, hone, hcell⟩ := H.read hg hl
  refine ⟨us, hr, hone, hul, run_firstCells_some w sz n _ len c us hul (fun j u hu => ?_)⟩
  by_cases h0 : n = 0
  · subst h0; simp at hul; subst hul; simp at hu
  · have := ho (by omega)
    subst this
    rw [add0]
    exact hcell j u hu
theorem w_copy (hG : GlOk σ G) (H : HR σ B w0 h w) {o : Oper} {c : Call} (ho : o.op = .call c) (hc : c.callee = .builtin .copy) {t tx e : TypeId} (hts : c.argTypes.toList = [t, tx]) (h1 : P.underlying t = some (.slice e)) {sz : Nat} (hsz : szT P e = some sz)
    {x' y' : Opd} (hx : trOs G c.args.toList = some [x', y']) (hf : FRo σ fr a.tmps [x', y']) {v : V} {h' : Heap} (hs : opS (.copyL sz x' y') fr h = some (v, h')) : W1 P o a σ B w0 h w v h' := by
  have hv := evs_sound hG hx hf
  have e1 : c.argTypes = [t, tx].toArray := by rw [← hts]
  have e2 : c.args.map a.eval = (c.args.toList.map a.eval).toArray := by rw [← Array.toList_map]
  have hw : ∀ {u : Value} {w' : World}, (Builtin.copy_ c.argTypes o.type (c.args.map a.eval)).run P w = .ok u w' → (execOp a.eval o).run P w = .ok (.value u) w' := fun h => w_builtin ho hc (fun _ => rfl) h
  rw [e1, e2] at hw
  generalize c.args.toList.map a.eval = us at hv hw
  simp only [List.map_cons, List.map_nil] at hv
  simp only [opS] at hs
  cases hv with
  | cons hv1 hv =>
    rename_i u1 us
    cases hv with
    | cons hv2 hv =>
      rename_i u2 us
      cases hv
      generalize ev fr x' = p at hv1 hs
      generalize ev fr y' = q at hv2 hs
      split at hs
      · rename_i ad dl cd zd as sl cs zs
        split at hs
        · rename_i hn
          obtain ⟨rfl, rfl⟩ := pair_inj hs
          have hn' : Nat.min sl dl = 0 := hn
          have h2 : (Builtin.firstCells sz 0 u2).run P w = .ok #[] w := by
            cases hv2 with
            | sl0 z => simp [Builtin.firstCells]
            | sl hl2 ho2 hn2 hl3 hc2 => exact run_firstCells_some w sz 0 _ _ _ [] (by simp) (fun j v hv => by simp at hv)
          refine ⟨σ, .int .i64 0, w, .inl (hw ?_), .i _ _, H, Ext.refl _ _ _⟩
          cases hv1 with
          | sl0 z =>
            cases hv2 with
            | sl0 z' => simp [Builtin.copy_, run_underlying h1, Builtin.lenOf, run_szT hsz, h2, goInt]
            | sl hl2 ho2 hn2 hl3 hc2 => simp [Builtin.copy_, run_underlying h1, Builtin.lenOf, run_szT hsz, hn', h2, goInt]
          | sl hl1 ho1 hn1 hl1' hc1 =>
            cases hv2 with
            | sl0 z' => simp [Builtin.copy_, run_underlying h1, Builtin.lenOf, run_szT hsz, hn', h2, storeCells, goInt]
            | sl hl2 ho2 hn2 hl3 hc2 => simp [Builtin.copy_, run_underlying h1, Builtin.lenOf, run_szT hsz, hn', h2, storeCells, goInt]
        · rename_i hn
          split at hs
          · rename_i id off id' off'
            split at hs
            · rename_i hz
              obtain ⟨rfl, rfl⟩ := hz
              split at hs
              · rename_i cells hg
                split at hs
                · rename_i hone
                  obtain ⟨h1', hs2, hh⟩ := map1 hs
                  injection hh with e3 e4
                  subst e3; subst e4
                  cases hv1 with
                  | sl hl1 ho1 hn1 hl1' hc1 =>
                    cases hv2 with
                    | sl hl2 ho2 hn2 hl3 hc2 =>
                      rename_i L o1 c1 L2 o2 c2
                      obtain ⟨us, hr, _, hul, hfc⟩ := copy_cells (P := P) H (n := min sl dl) (len := sl) (c := c2) hg hl2 (fun h0 => ho2 (.inl (by omega)))
                      obtain ⟨hex, hfz, HR', hlen⟩ := H.setCells hs2 hl1 hr hone
                      have ho1' : o1 = L.o + off := ho1 (.inl (by omega))
                      subst ho1'
                      have hst := run_storeCells_cells (P := P) L.b (L.o + off) us 0 w (by simpa using hex) (by simpa using hfz) (by have := one_all hr hone; rw [List.all_eq_true] at this; exact this)
                      simp only [Nat.add_zero] at hst
                      refine ⟨σ, .int .i64 (min sl dl : Nat), _, .inl (hw ?_), .i _ _, HR', Ext.refl _ _ _⟩
                      have hmin : Nat.min sl dl = min sl dl := rfl
                      simp [Builtin.copy_, run_underlying h1, Builtin.lenOf, run_szT hsz, hmin, hfc, hst, goInt]
                · cases hs
              · cases hs
            · cases hs
          · cases hs
      · cases hs
theorem zero_cells {z : List V} {zv : Array Value} (hz : VRs σ z zv.toList) (n : Nat) : VRs σ (reps z n) (Builtin.zeroCells zv n).toList := by
  have hl : z.length = zv.size := by rw [hz.length]; simp
  refine VRs.of_get ?_ fun j v u hv hu => ?_
  · rw [reps_length, hl]; simp [Builtin.zeroCells]
  · have hj : j < n * z.length := by have := (List.getElem?_eq_some_iff.1 hv).1; rwa [reps_length] at this
    rw [reps_get z n j hj] at hv
    obtain ⟨u', hu', hvr⟩ := hz.get hv
    have : u = u' := by
      have hjz : j % zv.size < zv.size := by
        apply Nat.mod_lt
        rcases Nat.eq_zero_or_pos zv.size with h0 | h0
        · rw [hl, h0] at hj; omega
        · exact h0
      rw [hl] at hu'
      rw [hl] at hj
      simp only [Builtin.zeroCells, Array.toList_map, List.getElem?_map, Array.toList_range, List.getElem?_range hj, Option.map_some, Option.some.injEq] at hu
      rw [← hu]
      rw [Array.getElem?_toList, Array.getElem?_eq_getElem hjz] at hu'
      injection hu' with hu'
      rw [← hu', getElem!_pos zv (j % zv.size) hjz]
    rw [this]; exact hvr
theorem w_clear (hG : GlOk σ G) (H : HR σ B w0 h w) {o : Oper} {c : Call} (ho : o.op = .call c) (hc : c.callee = .builtin .clear) {t e : TypeId} (hts : c.argTypes.toList = [t]) (h1 : P.underlying t = some (.slice e)) {sz : Nat} (hsz : szT P e = some sz) {z : List V} (hz : zeroT P e = some z)
    {x' : Opd} (hx : trOs G c.args.toList = some [x']) (hf : FRo σ fr a.tmps [x']) {v : V} {h' : Heap} (hs : opS (.clearL sz z x') fr h = some (v, h')) : W1 P o a σ B w0 h w v h' := by
  have hv := evs_sound hG hx hf
  have e1 : c.argTypes = [t].toArray := by rw [← hts]
  have e2 : c.args.map a.eval = (c.args.toList.map a.eval).toArray := by rw [← Array.toList_map]
  have hw : ∀ {u : Value} {w' : World}, (Builtin.clear_ c.argTypes o.type (c.args.map a.eval)).run P w = .ok u w' → (execOp a.eval o).run P w = .ok (.value u) w' := fun h => w_builtin ho hc (fun _ => rfl) h
  rw [e1, e2] at hw
  generalize c.args.toList.map a.eval = us at hv hw
  simp only [List.map_cons, List.map_nil] at hv
  simp only [opS] at hs
  cases hv with
  | cons hv1 hv =>
    rename_i u1 us
    cases hv
    generalize ev fr x' = p at hv1 hs
    obtain ⟨i, zv, hi, hiz, hzr, hzone⟩ := zeroT_some (σ := σ) hz
    have hrz : ∀ W, (zeroValue e).run P W = .ok zv W := fun W => by simp [zeroValue, typeInfo, hi, hiz]
    split at hs
    · obtain ⟨rfl, rfl⟩ := pair_inj hs
      cases hv1
      refine ⟨σ, .tuple #[], w, .inl (hw ?_), .t .nil, H, Ext.refl _ _ _⟩
      simp [Builtin.clear_, run_underlying h1]
    · rename_i id off n cap z'
      split at hs
      · rename_i h0
        subst h0
        obtain ⟨rfl, rfl⟩ := pair_inj hs
        cases hv1 with
        | sl hl1 ho1 hn1 hl1' hc1 =>
          refine ⟨σ, .tuple #[], w, .inl (hw ?_), .t .nil, H, Ext.refl _ _ _⟩
          simp [Builtin.clear_, run_underlying h1]
      · rename_i h0
        split at hs
        · rename_i hc0
          obtain ⟨rfl, hzl, _⟩ := hc0
          obtain ⟨h1', hs2, hh⟩ := map1 hs
          injection hh with e3 e4
          subst e3; subst e4
          cases hv1 with
          | sl hl1 ho1 hn1 hl1' hc1 =>
            rename_i L o1 c1
            have ho1' : o1 = L.o + off := ho1 (.inl (by omega))
            subst ho1'
            have hr := zero_cells hzr n
            have hone := reps_one hzone n
            obtain ⟨hex, hfz, HR', hlen⟩ := H.setCells hs2 hl1 hr hone
            have hst := run_storeCells_cells (P := P) L.b (L.o + off) (Builtin.zeroCells zv.cells n).toList 0 w (by simpa using hex) (by simpa using hfz) (by have := one_all hr hone; rw [List.all_eq_true] at this; exact this)
            simp only [Nat.add_zero] at hst
            refine ⟨σ, .tuple #[], _, .inl (hw ?_), .t .nil, HR', Ext.refl _ _ _⟩
            cases n with
            | zero => exact absurd rfl h0
            | succ n => simp [Builtin.clear_, run_underlying h1, hrz, hst]
        · cases hs
    · cases hs
theorem world_sound (hG : GlOk σ G) (H : HR σ B w0 h w) {o : Oper} {ao : AOp} (ht : trOp P G o.op = some ao) (hk : ao.kd = .world) (hf : FRo σ fr a.tmps ao.opds) {v : V} {h' : Heap} (hs : opS ao fr h = some (v, h')) : W1 P o a σ B w0 h w v h' := by
  cases hop : o.op with
  | store t x y =>
    rw [hop] at ht
    simp only [trOp] at ht
    split at ht
    · injection ht with ht; subst ht
      exact w_store hG H hop (by assumption) (by assumption) (by assumption) hf hs
    · cases ht
  | mapUpdate t m k x =>
    rw [hop] at ht
    simp only [trOp] at ht
    split at ht
    · obtain ⟨kk, hkk, rfl⟩ := map1 ht
      exact w_mupd hG H hop (by assumption) hkk (by assumption) (by assumption) (by assumption) hf hs
    · cases ht
  | call c =>
    rw [hop] at ht
    simp only [trOp] at ht
    split at ht
    · rename_i b hc
      split at ht
      · rename_i xs hx
        unfold trBuiltin at ht
        split at ht
        · split at ht
          · rename_i t u x' y' hts
            split at ht
            · rename_i e e' hu1 hu2
              split at ht
              · rename_i sz by_ z hsz hby hz
                split at ht
                · rename_i hc0
                  injection ht with ht; subst ht
                  obtain ⟨i, zv, hi, hiz, hzr, hzone⟩ := zeroT_some (σ := σ) hz
                  by_cases hu8 : isU8T P e = true
                  · rw [if_pos hu8] at hf hs
                    exact w_append (str := false) hG H hop hc hts hu1 ⟨_, hu2⟩ hsz hby hc0.1 hc0.2.1 (z := zv) (by simp [zeroV, hi, hiz]) (by rw [← hc0.2.2, hzr.length]; simp) hx hf (.inr rfl) hs
                  · rw [if_neg hu8] at hf hs
                    exact w_append (str := false) hG H hop hc hts hu1 ⟨_, hu2⟩ hsz hby hc0.1 hc0.2.1 (z := zv) (by simp [zeroV, hi, hiz]) (by rw [← hc0.2.2, hzr.length]; simp) hx hf (.inl rfl) hs
                · cases ht
              · cases ht
            · rename_i e hu1 hu2
              split at ht
              · rename_i sz by_ z hsz hby hz
                split at ht
                · rename_i hc0
                  injection ht with ht; subst ht
                  obtain ⟨i, zv, hi, hiz, hzr, hzone⟩ := zeroT_some (σ := σ) hz
                  by_cases hu8 : isU8T P e = true
                  · rw [if_pos hu8] at hf hs
                    exact w_append (str := true) hG H hop hc hts hu1 hu2 hsz hby hc0.1 hc0.2.1 (z := zv) (by simp [zeroV, hi, hiz]) (by rw [← hc0.2.2, hzr.length]; simp) hx hf (.inr rfl) hs
                  · rw [if_neg hu8] at hf hs
                    exact w_append (str := true) hG H hop hc hts hu1 hu2 hsz hby hc0.1 hc0.2.1 (z := zv) (by simp [zeroV, hi, hiz]) (by rw [← hc0.2.2, hzr.length]; simp) hx hf (.inl rfl) hs
                · cases ht
              · cases ht
            · cases ht
          · cases ht
        · split at ht
          · split at ht
            · injection ht with ht; subst ht; cases hk
            · injection ht with ht; subst ht; cases hk
            · injection ht with ht; subst ht; cases hk
            · cases ht
          · cases ht
        · split at ht
          · split at ht
            · obtain ⟨kk, hkk, rfl⟩ := map1 ht
              exact w_delete hG H hop hc (by assumption) (by assumption) hkk hx hf hs
            · cases ht
          · cases ht
        · split at ht
          · split at ht
            · injection ht with ht; subst ht; cases hk
            · cases ht
          · cases ht
        · injection ht with ht; subst ht; cases hk
        · split at ht
          · split at ht
            · obtain ⟨sz, hsz, rfl⟩ := map1 ht
              exact w_copy hG H hop hc (by assumption) (by assumption) hsz hx hf hs
            · cases ht
          · cases ht
        · split at ht
          · split at ht
            · split at ht
              · split at ht
                · injection ht with ht; subst ht
                  exact w_clear hG H hop hc (by assumption) (by assumption) (by assumption) (by assumption) hx hf hs
                · cases ht
              · cases ht
            · cases ht
          · cases ht
        · injection ht with ht; subst ht; cases hk
        · injection ht with ht; subst ht; cases hk
        · cases ht
      · cases ht
    · cases ht
  | makeFunc fn first cs =>
    rw [hop] at ht
    cases fn with
    | func f =>
      simp only [trOp] at ht
      split at ht
      · obtain ⟨ys, hy, rfl⟩ := map1 ht
        cases hk
      · cases ht
    | _ => simp [trOp] at ht
  | makeMap t r => rw [hop] at ht; cases r <;> simp [trOp] at ht; subst ht; cases hk
  | next x s =>
    rw [hop] at ht
    simp only [trOp] at ht
    split at ht
    · rename_i hs2
      obtain ⟨y, hy, rfl⟩ := map1 ht
      subst hs2
      exact w_next hG H hop hy hf hs
    · cases ht
  | _ =>
    exfalso
    rw [hop] at ht
    simp only [trOp] at ht
    (repeat' split at ht) <;> first | (injection ht with ht; subst ht; cases hk; done) | (obtain ⟨y, hy, rfl⟩ := map1 ht; cases hk; done) | (cases ht; done)
end
end Am
end Go.Proofs.YtcndgnddipbbgaaGreat
