/-
  WHAT THE FUNCTIONS COME TO, part 10: a unit's text, by the program.
  Conditions: none.
-/
import Derived.Test.YtjjkjfdojifchaaDoorSp9
import Derived.Test.YtjjkjfdojifchaaDoorSp4
set_option linter.unusedVariables false
set_option linter.unusedSimpArgs false
namespace Go.Proofs.YtjjkjfdojifchaaDoor
namespace Am
theorem dec_ascii {l : List UInt8} {i : Nat} (hi : i < l.length) (ha : l[i].toNat < 128) : Utf8.decode ⟨l.toArray⟩ i = (l[i].toNat, 1) := by
  have e : (ByteArray.get! ⟨l.toArray⟩ (i + 0)) = l[i] := by
    simp [ByteArray.get!, hi]
  simp only [Utf8.decode, e]
  rw [if_pos ha]
/-- A word of a unit's text, by its letter. -/
def fieldT (u : U) (w : UInt8) : List UInt8 :=
  if w = 115 then [32, 115, 113] ++ itoaL u.sq else if w = 110 then [32, 110] ++ itoaL u.n else if w = 112 then [32, 112, 115] ++ itoaL u.ps else if w = 109 then [32, 109, 114] ++ itoaL u.mr else
  if w = 108 then [32, 108] ++ listT u.list else (if u.self = true then [32, 115, 101, 108, 102] else []) ++ ([32, 100] ++ hexT u.data)
/-- What is known of a unit's sizes. -/
structure Sized (u : U) : Prop where
  sq : 0 ≤ u.sq ∧ u.sq ≤ 255
  n : W32 u.n
  ps : W32 u.ps
  mr : W32 u.mr
  list : ∀ x ∈ u.list, W32 x
  len : u.list.length ≤ 1000
  data : u.data.length ≤ 100000
theorem hexT_len (l : List UInt8) : (hexT l).length ≤ 2 * l.length + 1 := by
  unfold hexT; split
  · simp
  · rw [hexL_len]; omega
theorem listT_len {l : List Int} (h : ∀ x ∈ l, W32 x) : (listT l).length ≤ 11 * l.length + 1 := by
  unfold listT; split
  · simp
  · have := joinL_len [44] rfl (l.map itoaL) (fun x hx => by
      obtain ⟨y, hy, rfl⟩ := List.mem_map.1 hx
      exact itoaL_len (h y hy))
    simp at this ⊢
    omega
theorem sq_W {x : Int} (h : 0 ≤ x ∧ x ≤ 255) : W32 x := by unfold W32; omega
theorem fieldT_len {u : U} (hs : Sized u) (w : UInt8) : (fieldT u w).length ≤ 300000 := by
  have h1 := itoaL_len (sq_W hs.sq)
  have h2 := itoaL_len hs.n
  have h3 := itoaL_len hs.ps
  have h4 := itoaL_len hs.mr
  have h5 := listT_len hs.list
  have h6 := hexT_len u.data
  have h7 := hs.len
  have h8 := hs.data
  unfold fieldT
  split
  · simp; omega
  split
  · simp; omega
  split
  · simp; omega
  split
  · simp; omega
  split
  · simp; omega
  split
  · simp; omega
  · simp; omega
theorem take_flat {u : U} {l : List UInt8} {i : Nat} (hi : i < l.length) : (l.take (i + 1)).flatMap (fieldT u) = (l.take i).flatMap (fieldT u) ++ fieldT u l[i] := by
  rw [List.take_succ_eq_append_getElem hi, List.flatMap_append]; rw [show [l[i]].flatMap (fieldT u) = fieldT u l[i] by simp]
theorem unit_loop {k : List K} {Q : X → List V → Heap → Prop} {H0 : Heap} {P I : Nat} {u : U} {a : Option (Nat × Nat)} {c : Option Nat} {z : Nat} {nm l : List UInt8} (hR : R1 H0 a z (u.list.map (.i .u32))) (hs : Sized u) (hg : glOk H0 = true)
    (hP : H0[P]? = some (.cells [.i .i64 u.kind, .i .i64 u.sq, .i .u32 u.n, .i .u32 u.ps, .i .u32 u.mr, .sl a u.list.length c z, .b u.self, .s u.data] false none)) (hnm : nm.length ≤ 10)
    (hl : ∀ w ∈ l, w ∈ ([115, 110, 112, 109, 108, 100] : List UInt8)) (hll : l.length ≤ 10) (hI : H0.length ≤ I)
    (hex : ∀ g' H, g' 3 = .s (nm ++ l.flatMap (fieldT u)) → Keeps H0 H → Un M k (.ex 0) (frL 73 g') H Q) :
    ∀ (n i : Nat) (g : Nat → V) (H : Heap) (s : List UInt8), i + n = l.length → g 1 = .p (some (P, 0)) → g 3 = .s s → g 14 = .p (some (I, 0)) → s = nm ++ (l.take i).flatMap (fieldT u) → s.length ≤ 300000 * (i + 1) → H[I]? = some (.str l i) → Keeps H0 H →
      Un M (.code (.loop l_trace_Unit_0) :: k) .nrm (frL 73 g) H Q := by
  intro n
  induction n with
  | zero =>
    intro i g H s hi h1 h3 h14 hse hsl hit hk
    have : i = l.length := by omega
    subst this
    rw [Un_loop]
    simp only [go_sem, Nat.reduceLT, Nat.reduceLeDiff, Nat.reduceEqDiff, Nat.reduceAdd, Nat.reduceMul, Nat.reduceSub, Int.reduceLT, Int.reduceLE, Int.reduceEq, Int.reduceNe, Int.reduceToNat, Int.reduceAdd, Int.reduceSub, Int.reduceMul, Int.reduceNeg, Int.reduceBEq, Int.reduceBNe, Nat.reduceBEq, l_trace_Unit_0, h1, h3, h14, hit, Nat.lt_irrefl]
    refine hex _ H ?_ hk
    simp only [go_sem, Nat.reduceLT, Nat.reduceLeDiff, Nat.reduceEqDiff, Nat.reduceAdd, Nat.reduceMul, Nat.reduceSub, Int.reduceLT, Int.reduceLE, Int.reduceEq, Int.reduceNe, Int.reduceToNat, Int.reduceAdd, Int.reduceSub, Int.reduceMul, Int.reduceNeg, Int.reduceBEq, Int.reduceBNe, Nat.reduceBEq, h3]
    rw [hse, List.take_length]
  | succ n ih =>
    intro i g H s hi h1 h3 h14 hse hsl hit hk
    have hlt : i < l.length := by omega
    have hPH := hk.2 _ _ hP
    have hPl := (List.getElem?_eq_some_iff.1 hP).1
    have hne : I ≠ P := by omega
    have hk2 : Keeps H0 (H.set I (.str l (i + 1))) := hk.set hI _
    have hg2 := hk2.gl hg
    have hI2 : (H.set I (.str l (i + 1)))[I]? = some (.str l (i + 1)) := set_same _ (by rw [hit]; rfl)
    have fl := fieldT_len hs l[i]
    have hfin : nm ++ (l.take (i + 1)).flatMap (fieldT u) = s ++ fieldT u l[i] := by rw [take_flat hlt, hse, List.append_assoc]
    have hsl2 : (s ++ fieldT u l[i]).length ≤ 300000 * (i + 1 + 1) := by rw [List.length_append]; omega
    have h1' := itoaL_len (sq_W hs.sq)
    have h2' := itoaL_len hs.n
    have h3' := itoaL_len hs.ps
    have h4' := itoaL_len hs.mr
    have h5' := listT_len hs.list
    have h6' := hexT_len u.data
    have h7' := hs.len
    have h8' := hs.data
    have wn : ∀ {x : Int}, W32 x → IntKind.i64.wrap x = x := fun h => wrap_i64 (by unfold W32 at h; omega) (by unfold W32 at h; omega)
    rw [Un_loop]
    have hw := hl l[i] (List.getElem_mem hlt)
    simp only [List.mem_cons, List.not_mem_nil, or_false] at hw
    rcases hw with hw | hw | hw | hw | hw | hw
    · have hdec : Utf8.decode ⟨l.toArray⟩ i = (115, 1) := by rw [dec_ascii hlt (by rw [hw]; decide), hw]; rfl
      simp only [go_sem, Nat.reduceLT, Nat.reduceLeDiff, Nat.reduceEqDiff, Nat.reduceAdd, Nat.reduceMul, Nat.reduceSub, Int.reduceLT, Int.reduceLE, Int.reduceEq, Int.reduceNe, Int.reduceToNat, Int.reduceAdd, Int.reduceSub, Int.reduceMul, Int.reduceNeg, Int.reduceBEq, Int.reduceBNe, Nat.reduceBEq, l_trace_Unit_0, h1, h3, h14, hit, hlt, hdec, hne, hPH, Pc_to (s_Itoa u.sq (H.set I (.str l (i + 1))) hg2 (by have := hs.sq; omega) (by have := hs.sq; omega)), bn_s_add [32, 115, 113] (itoaL u.sq) (by simp; omega), bn_s_add s (32 :: 115 :: 113 :: itoaL u.sq) (by simp; omega), Un_again]
      refine ih (i + 1) _ _ (s ++ fieldT u l[i]) (by omega) (by simp only [go_sem, Nat.reduceLT, Nat.reduceLeDiff, Nat.reduceEqDiff, Nat.reduceAdd, Nat.reduceMul, Nat.reduceSub, Int.reduceLT, Int.reduceLE, Int.reduceEq, Int.reduceNe, Int.reduceToNat, Int.reduceAdd, Int.reduceSub, Int.reduceMul, Int.reduceNeg, Int.reduceBEq, Int.reduceBNe, Nat.reduceBEq, h1]) ?_ (by simp only [go_sem, Nat.reduceLT, Nat.reduceLeDiff, Nat.reduceEqDiff, Nat.reduceAdd, Nat.reduceMul, Nat.reduceSub, Int.reduceLT, Int.reduceLE, Int.reduceEq, Int.reduceNe, Int.reduceToNat, Int.reduceAdd, Int.reduceSub, Int.reduceMul, Int.reduceNeg, Int.reduceBEq, Int.reduceBNe, Nat.reduceBEq, h14]) hfin.symm hsl2 hI2 hk2
      simp only [go_sem, Nat.reduceLT, Nat.reduceLeDiff, Nat.reduceEqDiff, Nat.reduceAdd, Nat.reduceMul, Nat.reduceSub, Int.reduceLT, Int.reduceLE, Int.reduceEq, Int.reduceNe, Int.reduceToNat, Int.reduceAdd, Int.reduceSub, Int.reduceMul, Int.reduceNeg, Int.reduceBEq, Int.reduceBNe, Nat.reduceBEq]
      rw [hw]; rfl
    · have hdec : Utf8.decode ⟨l.toArray⟩ i = (110, 1) := by rw [dec_ascii hlt (by rw [hw]; decide), hw]; rfl
      simp only [go_sem, Nat.reduceLT, Nat.reduceLeDiff, Nat.reduceEqDiff, Nat.reduceAdd, Nat.reduceMul, Nat.reduceSub, Int.reduceLT, Int.reduceLE, Int.reduceEq, Int.reduceNe, Int.reduceToNat, Int.reduceAdd, Int.reduceSub, Int.reduceMul, Int.reduceNeg, Int.reduceBEq, Int.reduceBNe, Nat.reduceBEq, l_trace_Unit_0, h1, h3, h14, hit, hlt, hdec, hne, hPH, wn hs.n, Pc_to (s_Itoa u.n (H.set I (.str l (i + 1))) hg2 (by have := hs.n; unfold W32 at this; omega) (by have := hs.n; unfold W32 at this; omega)), bn_s_add [32, 110] (itoaL u.n) (by simp; omega), bn_s_add s (32 :: 110 :: itoaL u.n) (by simp; omega), Un_again]
      refine ih (i + 1) _ _ (s ++ fieldT u l[i]) (by omega) (by simp only [go_sem, Nat.reduceLT, Nat.reduceLeDiff, Nat.reduceEqDiff, Nat.reduceAdd, Nat.reduceMul, Nat.reduceSub, Int.reduceLT, Int.reduceLE, Int.reduceEq, Int.reduceNe, Int.reduceToNat, Int.reduceAdd, Int.reduceSub, Int.reduceMul, Int.reduceNeg, Int.reduceBEq, Int.reduceBNe, Nat.reduceBEq, h1]) ?_ (by simp only [go_sem, Nat.reduceLT, Nat.reduceLeDiff, Nat.reduceEqDiff, Nat.reduceAdd, Nat.reduceMul, Nat.reduceSub, Int.reduceLT, Int.reduceLE, Int.reduceEq, Int.reduceNe, Int.reduceToNat, Int.reduceAdd, Int.reduceSub, Int.reduceMul, Int.reduceNeg, Int.reduceBEq, Int.reduceBNe, Nat.reduceBEq, h14]) hfin.symm hsl2 hI2 hk2
      simp only [go_sem, Nat.reduceLT, Nat.reduceLeDiff, Nat.reduceEqDiff, Nat.reduceAdd, Nat.reduceMul, Nat.reduceSub, Int.reduceLT, Int.reduceLE, Int.reduceEq, Int.reduceNe, Int.reduceToNat, Int.reduceAdd, Int.reduceSub, Int.reduceMul, Int.reduceNeg, Int.reduceBEq, Int.reduceBNe, Nat.reduceBEq]
      rw [hw]; rfl
    · have hdec : Utf8.decode ⟨l.toArray⟩ i = (112, 1) := by rw [dec_ascii hlt (by rw [hw]; decide), hw]; rfl
      simp only [go_sem, Nat.reduceLT, Nat.reduceLeDiff, Nat.reduceEqDiff, Nat.reduceAdd, Nat.reduceMul, Nat.reduceSub, Int.reduceLT, Int.reduceLE, Int.reduceEq, Int.reduceNe, Int.reduceToNat, Int.reduceAdd, Int.reduceSub, Int.reduceMul, Int.reduceNeg, Int.reduceBEq, Int.reduceBNe, Nat.reduceBEq, l_trace_Unit_0, h1, h3, h14, hit, hlt, hdec, hne, hPH, wn hs.ps, Pc_to (s_Itoa u.ps (H.set I (.str l (i + 1))) hg2 (by have := hs.ps; unfold W32 at this; omega) (by have := hs.ps; unfold W32 at this; omega)), bn_s_add [32, 112, 115] (itoaL u.ps) (by simp; omega), bn_s_add s (32 :: 112 :: 115 :: itoaL u.ps) (by simp; omega), Un_again]
      refine ih (i + 1) _ _ (s ++ fieldT u l[i]) (by omega) (by simp only [go_sem, Nat.reduceLT, Nat.reduceLeDiff, Nat.reduceEqDiff, Nat.reduceAdd, Nat.reduceMul, Nat.reduceSub, Int.reduceLT, Int.reduceLE, Int.reduceEq, Int.reduceNe, Int.reduceToNat, Int.reduceAdd, Int.reduceSub, Int.reduceMul, Int.reduceNeg, Int.reduceBEq, Int.reduceBNe, Nat.reduceBEq, h1]) ?_ (by simp only [go_sem, Nat.reduceLT, Nat.reduceLeDiff, Nat.reduceEqDiff, Nat.reduceAdd, Nat.reduceMul, Nat.reduceSub, Int.reduceLT, Int.reduceLE, Int.reduceEq, Int.reduceNe, Int.reduceToNat, Int.reduceAdd, Int.reduceSub, Int.reduceMul, Int.reduceNeg, Int.reduceBEq, Int.reduceBNe, Nat.reduceBEq, h14]) hfin.symm hsl2 hI2 hk2
      simp only [go_sem, Nat.reduceLT, Nat.reduceLeDiff, Nat.reduceEqDiff, Nat.reduceAdd, Nat.reduceMul, Nat.reduceSub, Int.reduceLT, Int.reduceLE, Int.reduceEq, Int.reduceNe, Int.reduceToNat, Int.reduceAdd, Int.reduceSub, Int.reduceMul, Int.reduceNeg, Int.reduceBEq, Int.reduceBNe, Nat.reduceBEq]
      rw [hw]; rfl
    · have hdec : Utf8.decode ⟨l.toArray⟩ i = (109, 1) := by rw [dec_ascii hlt (by rw [hw]; decide), hw]; rfl
      simp only [go_sem, Nat.reduceLT, Nat.reduceLeDiff, Nat.reduceEqDiff, Nat.reduceAdd, Nat.reduceMul, Nat.reduceSub, Int.reduceLT, Int.reduceLE, Int.reduceEq, Int.reduceNe, Int.reduceToNat, Int.reduceAdd, Int.reduceSub, Int.reduceMul, Int.reduceNeg, Int.reduceBEq, Int.reduceBNe, Nat.reduceBEq, l_trace_Unit_0, h1, h3, h14, hit, hlt, hdec, hne, hPH, wn hs.mr, Pc_to (s_Itoa u.mr (H.set I (.str l (i + 1))) hg2 (by have := hs.mr; unfold W32 at this; omega) (by have := hs.mr; unfold W32 at this; omega)), bn_s_add [32, 109, 114] (itoaL u.mr) (by simp; omega), bn_s_add s (32 :: 109 :: 114 :: itoaL u.mr) (by simp; omega), Un_again]
      refine ih (i + 1) _ _ (s ++ fieldT u l[i]) (by omega) (by simp only [go_sem, Nat.reduceLT, Nat.reduceLeDiff, Nat.reduceEqDiff, Nat.reduceAdd, Nat.reduceMul, Nat.reduceSub, Int.reduceLT, Int.reduceLE, Int.reduceEq, Int.reduceNe, Int.reduceToNat, Int.reduceAdd, Int.reduceSub, Int.reduceMul, Int.reduceNeg, Int.reduceBEq, Int.reduceBNe, Nat.reduceBEq, h1]) ?_ (by simp only [go_sem, Nat.reduceLT, Nat.reduceLeDiff, Nat.reduceEqDiff, Nat.reduceAdd, Nat.reduceMul, Nat.reduceSub, Int.reduceLT, Int.reduceLE, Int.reduceEq, Int.reduceNe, Int.reduceToNat, Int.reduceAdd, Int.reduceSub, Int.reduceMul, Int.reduceNeg, Int.reduceBEq, Int.reduceBNe, Nat.reduceBEq, h14]) hfin.symm hsl2 hI2 hk2
      simp only [go_sem, Nat.reduceLT, Nat.reduceLeDiff, Nat.reduceEqDiff, Nat.reduceAdd, Nat.reduceMul, Nat.reduceSub, Int.reduceLT, Int.reduceLE, Int.reduceEq, Int.reduceNe, Int.reduceToNat, Int.reduceAdd, Int.reduceSub, Int.reduceMul, Int.reduceNeg, Int.reduceBEq, Int.reduceBNe, Nat.reduceBEq]
      rw [hw]; rfl
    · have hdec : Utf8.decode ⟨l.toArray⟩ i = (108, 1) := by rw [dec_ascii hlt (by rw [hw]; decide), hw]; rfl
      obtain ⟨_, h9, ht, rfl, hk9⟩ := s_list u.list (H.set I (.str l (i + 1))) a c z (hR.keeps hk2) hs.len hs.list hg2
      simp only [go_sem, Nat.reduceLT, Nat.reduceLeDiff, Nat.reduceEqDiff, Nat.reduceAdd, Nat.reduceMul, Nat.reduceSub, Int.reduceLT, Int.reduceLE, Int.reduceEq, Int.reduceNe, Int.reduceToNat, Int.reduceAdd, Int.reduceSub, Int.reduceMul, Int.reduceNeg, Int.reduceBEq, Int.reduceBNe, Nat.reduceBEq, l_trace_Unit_0, h1, h3, h14, hit, hlt, hdec, hne, hPH, Pc_to ht, bn_s_add [32, 108] (listT u.list) (by simp; omega), bn_s_add s (32 :: 108 :: listT u.list) (by simp; omega), Un_again]
      refine ih (i + 1) _ _ (s ++ fieldT u l[i]) (by omega) (by simp only [go_sem, Nat.reduceLT, Nat.reduceLeDiff, Nat.reduceEqDiff, Nat.reduceAdd, Nat.reduceMul, Nat.reduceSub, Int.reduceLT, Int.reduceLE, Int.reduceEq, Int.reduceNe, Int.reduceToNat, Int.reduceAdd, Int.reduceSub, Int.reduceMul, Int.reduceNeg, Int.reduceBEq, Int.reduceBNe, Nat.reduceBEq, h1]) ?_ (by simp only [go_sem, Nat.reduceLT, Nat.reduceLeDiff, Nat.reduceEqDiff, Nat.reduceAdd, Nat.reduceMul, Nat.reduceSub, Int.reduceLT, Int.reduceLE, Int.reduceEq, Int.reduceNe, Int.reduceToNat, Int.reduceAdd, Int.reduceSub, Int.reduceMul, Int.reduceNeg, Int.reduceBEq, Int.reduceBNe, Nat.reduceBEq, h14]) hfin.symm hsl2 (hk9.2 _ _ hI2) (hk2.trans hk9)
      simp only [go_sem, Nat.reduceLT, Nat.reduceLeDiff, Nat.reduceEqDiff, Nat.reduceAdd, Nat.reduceMul, Nat.reduceSub, Int.reduceLT, Int.reduceLE, Int.reduceEq, Int.reduceNe, Int.reduceToNat, Int.reduceAdd, Int.reduceSub, Int.reduceMul, Int.reduceNeg, Int.reduceBEq, Int.reduceBNe, Nat.reduceBEq]
      rw [hw]; rfl
    · have hdec : Utf8.decode ⟨l.toArray⟩ i = (100, 1) := by rw [dec_ascii hlt (by rw [hw]; decide), hw]; rfl
      obtain ⟨_, h9, ht, rfl, hk9⟩ := s_Hex u.data (H.set I (.str l (i + 1))) hs.data
      cases hself : u.self
      · rw [hself] at hPH
        simp only [go_sem, Nat.reduceLT, Nat.reduceLeDiff, Nat.reduceEqDiff, Nat.reduceAdd, Nat.reduceMul, Nat.reduceSub, Int.reduceLT, Int.reduceLE, Int.reduceEq, Int.reduceNe, Int.reduceToNat, Int.reduceAdd, Int.reduceSub, Int.reduceMul, Int.reduceNeg, Int.reduceBEq, Int.reduceBNe, Nat.reduceBEq, l_trace_Unit_0, h1, h3, h14, hit, hlt, hdec, hne, hPH, Pc_to ht, bn_s_add [32, 100] (hexT u.data) (by simp; omega), bn_s_add s (32 :: 100 :: hexT u.data) (by simp; omega), Un_again]
        refine ih (i + 1) _ _ (s ++ fieldT u l[i]) (by omega) (by simp only [go_sem, Nat.reduceLT, Nat.reduceLeDiff, Nat.reduceEqDiff, Nat.reduceAdd, Nat.reduceMul, Nat.reduceSub, Int.reduceLT, Int.reduceLE, Int.reduceEq, Int.reduceNe, Int.reduceToNat, Int.reduceAdd, Int.reduceSub, Int.reduceMul, Int.reduceNeg, Int.reduceBEq, Int.reduceBNe, Nat.reduceBEq, h1]) ?_ (by simp only [go_sem, Nat.reduceLT, Nat.reduceLeDiff, Nat.reduceEqDiff, Nat.reduceAdd, Nat.reduceMul, Nat.reduceSub, Int.reduceLT, Int.reduceLE, Int.reduceEq, Int.reduceNe, Int.reduceToNat, Int.reduceAdd, Int.reduceSub, Int.reduceMul, Int.reduceNeg, Int.reduceBEq, Int.reduceBNe, Nat.reduceBEq, h14]) hfin.symm hsl2 (hk9.2 _ _ hI2) (hk2.trans hk9)
        simp only [go_sem, Nat.reduceLT, Nat.reduceLeDiff, Nat.reduceEqDiff, Nat.reduceAdd, Nat.reduceMul, Nat.reduceSub, Int.reduceLT, Int.reduceLE, Int.reduceEq, Int.reduceNe, Int.reduceToNat, Int.reduceAdd, Int.reduceSub, Int.reduceMul, Int.reduceNeg, Int.reduceBEq, Int.reduceBNe, Nat.reduceBEq]
        rw [hw]; simp [fieldT, hself]
      · rw [hself] at hPH
        simp only [go_sem, Nat.reduceLT, Nat.reduceLeDiff, Nat.reduceEqDiff, Nat.reduceAdd, Nat.reduceMul, Nat.reduceSub, Int.reduceLT, Int.reduceLE, Int.reduceEq, Int.reduceNe, Int.reduceToNat, Int.reduceAdd, Int.reduceSub, Int.reduceMul, Int.reduceNeg, Int.reduceBEq, Int.reduceBNe, Nat.reduceBEq, l_trace_Unit_0, h1, h3, h14, hit, hlt, hdec, hne, hPH, Pc_to ht, bn_s_add s [32, 115, 101, 108, 102] (by simp; omega), bn_s_add [32, 100] (hexT u.data) (by simp; omega), bn_s_add (s ++ [32, 115, 101, 108, 102]) (32 :: 100 :: hexT u.data) (by simp; omega), Un_again]
        refine ih (i + 1) _ _ (s ++ fieldT u l[i]) (by omega) (by simp only [go_sem, Nat.reduceLT, Nat.reduceLeDiff, Nat.reduceEqDiff, Nat.reduceAdd, Nat.reduceMul, Nat.reduceSub, Int.reduceLT, Int.reduceLE, Int.reduceEq, Int.reduceNe, Int.reduceToNat, Int.reduceAdd, Int.reduceSub, Int.reduceMul, Int.reduceNeg, Int.reduceBEq, Int.reduceBNe, Nat.reduceBEq, h1]) ?_ (by simp only [go_sem, Nat.reduceLT, Nat.reduceLeDiff, Nat.reduceEqDiff, Nat.reduceAdd, Nat.reduceMul, Nat.reduceSub, Int.reduceLT, Int.reduceLE, Int.reduceEq, Int.reduceNe, Int.reduceToNat, Int.reduceAdd, Int.reduceSub, Int.reduceMul, Int.reduceNeg, Int.reduceBEq, Int.reduceBNe, Nat.reduceBEq, h14]) hfin.symm hsl2 (hk9.2 _ _ hI2) (hk2.trans hk9)
        simp only [go_sem, Nat.reduceLT, Nat.reduceLeDiff, Nat.reduceEqDiff, Nat.reduceAdd, Nat.reduceMul, Nat.reduceSub, Int.reduceLT, Int.reduceLE, Int.reduceEq, Int.reduceNe, Int.reduceToNat, Int.reduceAdd, Int.reduceSub, Int.reduceMul, Int.reduceNeg, Int.reduceBEq, Int.reduceBNe, Nat.reduceBEq]
        rw [hw]; simp [fieldT, hself]
instance (u : U) : Decidable (okU u) := by unfold okU; infer_instance
/-- A unit's text. -/
def txt (u : U) : List UInt8 := nameL u.kind ++ (hasL u.kind).flatMap (fieldT u)
theorem nameL_len (k : Int) : (nameL k).length ≤ 10 := by
  rcases kinds k with hk | hk
  · rcases hk with rfl | rfl | rfl | rfl | rfl | rfl | rfl | rfl | rfl | rfl | rfl | rfl | rfl | rfl | rfl <;> decide
  · simp [nameL, hk]
theorem hasL_ok (k : Int) : (∀ w ∈ hasL k, w ∈ ([115, 110, 112, 109, 108, 100] : List UInt8)) ∧ (hasL k).length ≤ 10 := by
  rcases kinds k with hk | hk
  · rcases hk with rfl | rfl | rfl | rfl | rfl | rfl | rfl | rfl | rfl | rfl | rfl | rfl | rfl | rfl | rfl <;> decide
  · simp [hasL, hk]
theorem s_Unit (u : U) (h : Heap) (a : Option (Nat × Nat)) (c : Option Nat) (z : Nat) (hR : R1 h a z (u.list.map (.i .u32))) (hn : W32 u.n) (hps : W32 u.ps) (hmr : W32 u.mr) (hlist : ∀ x ∈ u.list, W32 x) (hlen : u.list.length ≤ 1000) (hdata : u.data.length ≤ 100000) (hg : glOk h = true) :
    ∃ v h', To M n_trace_Unit [uV u a c z] h v h' ∧ v = .s (if okU u then txt u else []) ∧ Keeps h h' := by
  have hPc : ∀ H, Keeps h H → ∃ v h', To M n_pdu_PDU_Check [uV u a c z] H v h' ∧ ∃ e os, v = .i .i64 e ∧ h' = H ++ os ∧ (e = 0 ↔ okU u) := fun H hk => s_pCheck u H a c z (hR.keeps hk) (by omega) hn hps hmr hlist
  obtain ⟨_, _, ht, e, os, rfl, rfl, he⟩ := hPc (h ++ [.cells [.i .i64 u.kind, .i .i64 u.sq, .i .u32 u.n, .i .u32 u.ps, .i .u32 u.mr, .sl a u.list.length c z, .b u.self, .s u.data] false none]) (Keeps.app _ _)
  unfold uV at ht
  refine To_body' rfl F_trace_Unit (Nat.le_of_ble_eq_true rfl) ?_
  by_cases ok : okU u
  · have e0 : e = 0 := he.2 ok
    simp only [go_sem, Nat.reduceLT, Nat.reduceLeDiff, Nat.reduceEqDiff, Nat.reduceAdd, Nat.reduceMul, Nat.reduceSub, Int.reduceLT, Int.reduceLE, Int.reduceEq, Int.reduceNe, Int.reduceToNat, Int.reduceAdd, Int.reduceSub, Int.reduceMul, Int.reduceNeg, Int.reduceBEq, Int.reduceBNe, Nat.reduceBEq, b_trace_Unit, uV, Pc_to ht, e0]
    have hname := s_Name u (h ++ .cells [.i .i64 u.kind, .i .i64 u.sq, .i .u32 u.n, .i .u32 u.ps, .i .u32 u.mr, .sl a u.list.length c z, .b u.self, .s u.data] false none :: os) a c z
    unfold uV at hname
    refine Pc_ofG hname fun os2 => ?_
    simp only [go_sem, Nat.reduceLT, Nat.reduceLeDiff, Nat.reduceEqDiff, Nat.reduceAdd, Nat.reduceMul, Nat.reduceSub, Int.reduceLT, Int.reduceLE, Int.reduceEq, Int.reduceNe, Int.reduceToNat, Int.reduceAdd, Int.reduceSub, Int.reduceMul, Int.reduceNeg, Int.reduceBEq, Int.reduceBNe, Nat.reduceBEq, Pc_to (s_has _ _)]
    rw [if_pos ok]
    refine unit_loop (H0 := h ++ .cells [.i .i64 u.kind, .i .i64 u.sq, .i .u32 u.n, .i .u32 u.ps, .i .u32 u.mr, .sl a u.list.length c z, .b u.self, .s u.data] false none :: (os ++ os2)) (P := h.length) (l := hasL u.kind) (nm := nameL u.kind) (c := c) (hR.keeps (Keeps.app _ _)) ⟨⟨ok.2.2.2.2.2.2.2.1, ok.2.2.2.2.2.2.2.2.1⟩, hn, hps, hmr, hlist, hlen, hdata⟩ ((Keeps.app _ _).gl hg) (by (first | (simp only [go_sem, Nat.reduceLT, Nat.reduceLeDiff, Nat.reduceEqDiff, Nat.reduceAdd, Nat.reduceMul, Nat.reduceSub, Int.reduceLT, Int.reduceLE, Int.reduceEq, Int.reduceNe, Int.reduceToNat, Int.reduceAdd, Int.reduceSub, Int.reduceMul, Int.reduceNeg, Int.reduceBEq, Int.reduceBNe, Nat.reduceBEq]; done) | (simp only [go_sem, Nat.reduceLT, Nat.reduceLeDiff, Nat.reduceEqDiff, Nat.reduceAdd, Nat.reduceMul, Nat.reduceSub, Int.reduceLT, Int.reduceLE, Int.reduceEq, Int.reduceNe, Int.reduceToNat, Int.reduceAdd, Int.reduceSub, Int.reduceMul, Int.reduceNeg, Int.reduceBEq, Int.reduceBNe, Nat.reduceBEq]; rfl) | rfl)) (nameL_len _) (hasL_ok _).1 (hasL_ok _).2 (Nat.le_refl _) ?_ (hasL u.kind).length 0 _ _ (nameL u.kind) (by omega) ?_ ?_ ?_ (by simp) (by have := nameL_len u.kind; omega) ?_ ?_
    · intro g' H h3 hk
      simp only [go_sem, Nat.reduceLT, Nat.reduceLeDiff, Nat.reduceEqDiff, Nat.reduceAdd, Nat.reduceMul, Nat.reduceSub, Int.reduceLT, Int.reduceLE, Int.reduceEq, Int.reduceNe, Int.reduceToNat, Int.reduceAdd, Int.reduceSub, Int.reduceMul, Int.reduceNeg, Int.reduceBEq, Int.reduceBNe, Nat.reduceBEq, h3]
      exact ⟨_, rfl, rfl, (Keeps.app _ _).trans hk⟩
    · (first | (simp only [go_sem, Nat.reduceLT, Nat.reduceLeDiff, Nat.reduceEqDiff, Nat.reduceAdd, Nat.reduceMul, Nat.reduceSub, Int.reduceLT, Int.reduceLE, Int.reduceEq, Int.reduceNe, Int.reduceToNat, Int.reduceAdd, Int.reduceSub, Int.reduceMul, Int.reduceNeg, Int.reduceBEq, Int.reduceBNe, Nat.reduceBEq]; done) | (simp only [go_sem, Nat.reduceLT, Nat.reduceLeDiff, Nat.reduceEqDiff, Nat.reduceAdd, Nat.reduceMul, Nat.reduceSub, Int.reduceLT, Int.reduceLE, Int.reduceEq, Int.reduceNe, Int.reduceToNat, Int.reduceAdd, Int.reduceSub, Int.reduceMul, Int.reduceNeg, Int.reduceBEq, Int.reduceBNe, Nat.reduceBEq]; rfl) | rfl)
    · (first | (simp only [go_sem, Nat.reduceLT, Nat.reduceLeDiff, Nat.reduceEqDiff, Nat.reduceAdd, Nat.reduceMul, Nat.reduceSub, Int.reduceLT, Int.reduceLE, Int.reduceEq, Int.reduceNe, Int.reduceToNat, Int.reduceAdd, Int.reduceSub, Int.reduceMul, Int.reduceNeg, Int.reduceBEq, Int.reduceBNe, Nat.reduceBEq]; done) | (simp only [go_sem, Nat.reduceLT, Nat.reduceLeDiff, Nat.reduceEqDiff, Nat.reduceAdd, Nat.reduceMul, Nat.reduceSub, Int.reduceLT, Int.reduceLE, Int.reduceEq, Int.reduceNe, Int.reduceToNat, Int.reduceAdd, Int.reduceSub, Int.reduceMul, Int.reduceNeg, Int.reduceBEq, Int.reduceBNe, Nat.reduceBEq]; rfl) | rfl)
    · (first | (simp only [go_sem, Nat.reduceLT, Nat.reduceLeDiff, Nat.reduceEqDiff, Nat.reduceAdd, Nat.reduceMul, Nat.reduceSub, Int.reduceLT, Int.reduceLE, Int.reduceEq, Int.reduceNe, Int.reduceToNat, Int.reduceAdd, Int.reduceSub, Int.reduceMul, Int.reduceNeg, Int.reduceBEq, Int.reduceBNe, Nat.reduceBEq]; done) | (simp only [go_sem, Nat.reduceLT, Nat.reduceLeDiff, Nat.reduceEqDiff, Nat.reduceAdd, Nat.reduceMul, Nat.reduceSub, Int.reduceLT, Int.reduceLE, Int.reduceEq, Int.reduceNe, Int.reduceToNat, Int.reduceAdd, Int.reduceSub, Int.reduceMul, Int.reduceNeg, Int.reduceBEq, Int.reduceBNe, Nat.reduceBEq]; rfl) | rfl)
    · have e1 : ∀ (o x : Obj), h ++ o :: (os ++ (os2 ++ [x])) = (h ++ o :: (os ++ os2)) ++ [x] := fun o x => by simp
      rw [e1, get_new0]; rfl
    · have e1 : ∀ (o x : Obj), h ++ o :: (os ++ (os2 ++ [x])) = (h ++ o :: (os ++ os2)) ++ [x] := fun o x => by simp
      rw [e1]; exact Keeps.app _ _
  · have e0 : ¬ e = 0 := fun c => ok (he.1 c)
    simp only [go_sem, Nat.reduceLT, Nat.reduceLeDiff, Nat.reduceEqDiff, Nat.reduceAdd, Nat.reduceMul, Nat.reduceSub, Int.reduceLT, Int.reduceLE, Int.reduceEq, Int.reduceNe, Int.reduceToNat, Int.reduceAdd, Int.reduceSub, Int.reduceMul, Int.reduceNeg, Int.reduceBEq, Int.reduceBNe, Nat.reduceBEq, b_trace_Unit, uV, Pc_to ht, e0]
    rw [if_neg ok]
    exact ⟨_, rfl, rfl, Keeps.app _ _⟩
end Am
end Go.Proofs.YtjjkjfdojifchaaDoor
