/-
  WHAT THE ORACLES PROMISE, THE LIBRARY'S FUNCTIONS KEEP, part 3.
  Conditions: none.
-/
import Derived.Test.YtjjkjfdojifchaaDoorGw1
import Derived.Test.YtjjkjfdojifchaaDoorGw2
import Derived.Test.YtjjkjfdojifchaaDoorShelf
import Derived.KernelRfl
set_option linter.unusedVariables false
set_option linter.unusedSimpArgs false
namespace Go.Proofs.YtjjkjfdojifchaaDoor
namespace Am
open Go.RowKit Go.Shelf Go.Proofs
section
variable {σ : Sg} {B : Nat} {w0 w w' : World} {h : Heap}
theorem VRs.one {v : V} {us : List Value} (h : VRs σ [v] us) : ∃ u, us = [u] ∧ VR σ v u := by
  cases h with
  | cons h hs => cases hs; exact ⟨_, rfl, h⟩
theorem VRs.two {v v' : V} {us : List Value} (h : VRs σ [v, v'] us) : ∃ u u', us = [u, u'] ∧ VR σ v u ∧ VR σ v' u' := by
  cases h with
  | cons h hs => obtain ⟨u', rfl, h'⟩ := hs.one; exact ⟨_, _, rfl, h, h'⟩
theorem gl_pow (hg : glOk h = true) : ∃ t, t < 1000000 ∧ h[1]? = some (.cells powV true (some t)) := by
  unfold glOk at hg
  simp only [Bool.and_eq_true] at hg
  have h1 := hg.1.1.1.2
  split at h1
  · rename_i a t e
    simp only [Bool.and_eq_true, decide_eq_true_eq] at h1
    rw [e, sameL_eq h1.2]
    exact ⟨_, h1.1, rfl⟩
  · cases h1
theorem gl_max (hg : glOk h = true) : ∃ m ty, h[2]? = some (.cells [.i .i64 m] true ty) := by
  unfold glOk at hg
  simp only [Bool.and_eq_true] at hg
  have h1 := hg.1.1.2
  split at h1
  · rename_i m ty e
    exact ⟨_, _, e⟩
  · cases h1
theorem gl_e3 (hg : glOk h = true) : ∃ t x ty, h[3]? = some (.cells [.ic t x] true ty) := by
  unfold glOk at hg
  simp only [Bool.and_eq_true] at hg
  have h1 := hg.1.2
  split at h1
  · rename_i t x ty e
    exact ⟨_, _, _, e⟩
  · cases h1
theorem gl_e4 (hg : glOk h = true) : ∃ t x ty, h[4]? = some (.cells [.ic t x] true ty) := by
  unfold glOk at hg
  simp only [Bool.and_eq_true] at hg
  have h1 := hg.2
  split at h1
  · rename_i t x ty e
    exact ⟨_, _, _, e⟩
  · cases h1
theorem var_max (hg : glOk h = true) (hG : GlOk σ G) (H : HR σ B w0 h w) : ∃ m, w.cell? ⟨gv2, 0, none⟩ = some (.int .i64 m) := by
  obtain ⟨m, ty, e⟩ := gl_max hg
  obtain ⟨l, hl, hb, ho⟩ := hG gv2 2 rfl
  obtain ⟨u, hu, hv⟩ := H.cell e hl (j := 0) rfl
  cases hv
  rw [hb, ho] at hu
  exact ⟨m, hu⟩
theorem var_e3 (hg : glOk h = true) (hG : GlOk σ G) (H : HR σ B w0 h w) : ∃ t p, w.cell? ⟨gv3, 0, none⟩ = some (.iface t p) := by
  obtain ⟨t, x, ty, e⟩ := gl_e3 hg
  obtain ⟨l, hl, hb, ho⟩ := hG gv3 3 rfl
  obtain ⟨u, hu, hv⟩ := H.cell e hl (j := 0) rfl
  cases hv
  rw [hb, ho] at hu
  exact ⟨_, _, hu⟩
theorem var_e4 (hg : glOk h = true) (hG : GlOk σ G) (H : HR σ B w0 h w) : ∃ t p, w.cell? ⟨gv4, 0, none⟩ = some (.iface t p) := by
  obtain ⟨t, x, ty, e⟩ := gl_e4 hg
  obtain ⟨l, hl, hb, ho⟩ := hG gv4 4 rfl
  obtain ⟨u, hu, hv⟩ := H.cell e hl (j := 0) rfl
  cases hv
  rw [hb, ho] at hu
  exact ⟨_, _, hu⟩
theorem pow_get (j : Nat) (hj : j < 20) : powV[j]? = some (.i .u64 ((10 ^ j : Nat) : Int)) := by
  rcases (by omega : j = 0 ∨ j = 1 ∨ j = 2 ∨ j = 3 ∨ j = 4 ∨ j = 5 ∨ j = 6 ∨ j = 7 ∨ j = 8 ∨ j = 9 ∨ j = 10 ∨ j = 11 ∨ j = 12 ∨ j = 13 ∨ j = 14 ∨ j = 15 ∨ j = 16 ∨ j = 17 ∨ j = 18 ∨ j = 19) with rfl | rfl | rfl | rfl | rfl | rfl | rfl | rfl | rfl | rfl | rfl | rfl | rfl | rfl | rfl | rfl | rfl | rfl | rfl | rfl <;> rfl
theorem var_pow (hg : glOk h = true) (hG : GlOk σ G) (H : HR σ B w0 h w) : Lib.TabIs Tryd.prog w "internal/strconv.uint64pow10" .u64 Lib.pow10Tab := by
  obtain ⟨t, htl, e⟩ := gl_pow hg
  obtain ⟨l, hl, hb, ho⟩ := hG gv1 1 rfl
  obtain ⟨⟨T, hsh, hT⟩, _, _, _⟩ := H.obj 1 _ l e hl
  have hn := ((hT t rfl).2.1 htl).2
  have hl20 : powV.length = 20 := rfl
  rw [hb] at hsh
  have hcell : ∀ j, j < 20 → w.cell? ⟨gv1, j, none⟩ = some (.int .u64 ((10 ^ j : Nat) : Int)) := fun j hj => by
    obtain ⟨u, hu, hv⟩ := H.cell e hl (pow_get j hj)
    cases hv
    rw [hb, ho, Nat.zero_add] at hu
    exact hu
  have hname : Tryd.prog.globalNamed "internal/strconv.uint64pow10" = some gv1 := by kernel_rfl
  unfold Lib.TabIs World.var?
  rw [hname]
  unfold World.shape? at hsh
  unfold World.cell? at hcell
  simp only at hcell
  simp only [Option.bind_some]
  generalize w.heap[gv1]? = ob at hsh hcell ⊢
  match ob, hsh, hcell with
  | some (.cells cs el fz), hsh, hcell =>
    simp only at hsh hcell ⊢
    injection hsh with hsh
    injection hsh with _ hsz
    congr 1
    apply Array.ext_getElem?
    intro i
    by_cases hi : i < 20
    · have := hcell i hi
      simp only [Option.isSome_none, Bool.false_eq_true, if_false] at this
      rw [this]
      simp [Lib.pow10Tab, hi]
    · rw [Array.getElem?_eq_none (by omega), Array.getElem?_eq_none (by simp [Lib.pow10Tab]; omega)]
end
theorem good_Itoa : Good Tryd.prog G n_strconv_Itoa oItoa := by
  intro args h v h' hs
  unfold oItoa at hs
  split at hs
  · rename_i n
    split at hs
    · rename_i hc
      obtain ⟨rfl, rfl⟩ := pair_inj hs
      refine ⟨⟨_, Tryd.func24, by kernel_rfl, by kernel_rfl⟩, Nat.le_refl _, fun σ B w0 w us hG H hv => ?_⟩
      obtain ⟨u, rfl, hu⟩ := hv.one
      cases hu
      refine (Tryd.strconv_Itoa n hc.2.1 hc.2.2 w (var_pow hc.1 hG H)).mono ?_
      rintro e w' ⟨rfl, k, os, rfl⟩
      exact ⟨σ, _, rfl, by rw [itoa_lib]; exact .s _, H.grown (below_grow _ _ _), Ext.refl _ _ _⟩
    · cases hs
  · cases hs
theorem good_IndexByte : Good Tryd.prog G n_strings_IndexByte oIndexByte := by
  intro args h v h' hs
  unfold oIndexByte at hs
  split at hs
  · rename_i l c
    split at hs
    · rename_i hc
      obtain ⟨rfl, rfl⟩ := pair_inj hs
      refine ⟨⟨_, Tryd.func53, by kernel_rfl, by kernel_rfl⟩, Nat.le_refl _, fun σ B w0 w us hG H hv => ?_⟩
      obtain ⟨u, u', rfl, hu, hu'⟩ := hv.two
      cases hu
      cases hu'
      refine (Tryd.strings_IndexByte ⟨l.toArray⟩ c w).mono ?_
      rintro e w' ⟨rfl, rfl⟩
      exact ⟨σ, _, rfl, by rw [idx_lib0]; exact .i _ _, H, Ext.refl _ _ _⟩
    · cases hs
  · cases hs
theorem good_Atoi : Good Tryd.prog G n_strconv_Atoi oAtoi := by
  intro args h v h' hs
  unfold oAtoi at hs
  split at hs
  · rename_i l
    split at hs
    · rename_i hc
      have hbody : ∃ fn, Tryd.prog.funcs[n_strconv_Atoi]? = some fn ∧ fn.body.isSome = true ∧ (fn.name == "runtime.NumGoroutine") = false := ⟨_, Tryd.func51, by kernel_rfl, by kernel_rfl⟩
      have hsz : (⟨l.toArray⟩ : ByteArray).size = l.length := by simp [ByteArray.size]
      split at hs
      · rename_i n hn
        obtain ⟨rfl, rfl⟩ := pair_inj hs
        refine ⟨hbody, Nat.le_refl _, fun σ B w0 w us hG H hv => ?_⟩
        obtain ⟨u, rfl, hu⟩ := hv.one
        cases hu
        refine (Tryd.strconv_Atoi_ok ⟨l.toArray⟩ (by omega) n hn w).mono ?_
        rintro e w' ⟨rfl, hw⟩
        refine ⟨σ, _, rfl, .t (.cons (.i _ _) (.cons .ni .nil)), ?_, Ext.refl _ _ _⟩
        rcases hw with rfl | ⟨t, rfl⟩
        · exact H
        · exact H.grown (Lib.bytesWorld_below _ _ _)
      · rename_i hn
        obtain ⟨rfl, rfl⟩ := pair_inj hs
        refine ⟨hbody, by simp, fun σ B w0 w us hG H hv => ?_⟩
        obtain ⟨u, rfl, hu⟩ := hv.one
        cases hu
        obtain ⟨te, pe, hcell⟩ := var_e4 hc.1 hG H
        refine (Tryd.strconv_Atoi_range ⟨l.toArray⟩ (by omega) hn _ w hcell (.inr ⟨te, pe, rfl⟩)).mono ?_
        rintro e w' ⟨N, rfl, hN, hN2, hb⟩
        have hNl : N < w'.heap.size := by
          rcases Nat.lt_or_ge N w'.heap.size with h' | h'
          · exact h'
          · rw [Array.getElem?_eq_none h'] at hN2; cases hN2
        refine ⟨upd σ h.length ⟨N, 0, 0⟩, _, rfl, .t (.cons (.i _ _) (.cons (.ic _ (.p (l := ⟨N, 0, 0⟩) (upd_at _ _ _))) .nil)), (H.grown hb).dead hNl, ⟨upd_le _ H.fresh, fun k hk => upd_other (by simp at hk; omega)⟩⟩
      · rename_i hn1 hn2
        cases hn : Lib.atoiAll l with
        | ok v => exact absurd hn (hn1 v)
        | range => exact absurd hn hn2
        | _ =>
          obtain ⟨rfl, rfl⟩ := pair_inj hs
          refine ⟨hbody, by simp, fun σ B w0 w us hG H hv => ?_⟩
          obtain ⟨u, rfl, hu⟩ := hv.one
          cases hu
          obtain ⟨te, pe, hcell⟩ := var_e3 hc.1 hG H
          refine (Any.strconv_Atoi_syntax Tryd.laysC172 ⟨l.toArray⟩ (by omega) hn _ w hcell (.inr ⟨te, pe, rfl⟩)).mono ?_
          rintro e w' ⟨N, rfl, hN, hN2, hb⟩
          have hNl : N < w'.heap.size := by
            rcases Nat.lt_or_ge N w'.heap.size with h' | h'
            · exact h'
            · rw [Array.getElem?_eq_none h'] at hN2; cases hN2
          refine ⟨upd σ h.length ⟨N, 0, 0⟩, _, rfl, .t (.cons (.i _ _) (.cons (.ic _ (.p (l := ⟨N, 0, 0⟩) (upd_at _ _ _))) .nil)), (H.grown hb).dead hNl, ⟨upd_le _ H.fresh, fun k hk => upd_other (by simp at hk; omega)⟩⟩
    · cases hs
  · cases hs
theorem good_Split : Good Tryd.prog G n_strings_Split oSplit := by
  intro args h v h' hs
  unfold oSplit at hs
  split at hs
  · rename_i l b
    split at hs
    · rename_i hc
      obtain ⟨rfl, rfl⟩ := pair_inj hs
      refine ⟨⟨_, Tryd.func20, by kernel_rfl, by kernel_rfl⟩, by simp, fun σ B w0 w us hG H hv => ?_⟩
      obtain ⟨u, u', rfl, hu, hu'⟩ := hv.two
      cases hu
      cases hu'
      have hsz : (⟨l.toArray⟩ : ByteArray).size = l.length := by simp [ByteArray.size]
      obtain ⟨m, hm⟩ := var_max hc.1 hG H
      refine (Tryd.strings_Split ⟨l.toArray⟩ ⟨#[b]⟩ m w (by omega) hm (Nat.le_refl 1)).mono ?_
      rintro e w' ⟨rfl, rfl⟩
      have hd := split_lib b _ ⟨l.toArray⟩ rfl
      have hlen := Lib.splitB_all ⟨#[b]⟩ (Nat.le_refl 1) 0 _ ⟨l.toArray⟩ rfl
      generalize hK : Lib.splitB ⟨#[b]⟩ 0 (Lib.countB ⟨l.toArray⟩ ⟨#[b]⟩) ⟨l.toArray⟩ = K at hd hlen ⊢
      rw [show (⟨l.toArray⟩ : ByteArray).data.toList = l from by simp] at hd
      have hl2 : (splitL b l).length = K.length := by rw [← hd]; simp
      have hcell : ∀ (j : Nat) (v : V), ((splitL b l).map V.s)[j]? = some v → ∃ u, ((K.map Value.string).toArray)[j]? = some u ∧ VR σ v u := by
        intro j v hj
        rw [← hd, List.map_map, List.getElem?_map] at hj
        cases hk : K[j]? with
        | none => rw [hk] at hj; cases hj
        | some x =>
          rw [hk] at hj
          injection hj with hj
          subst hj
          refine ⟨.string x, by simp [hk], ?_⟩
          have := VR.s (σ := σ) x.data.toList
          rw [string_eta] at this
          exact this
      have HP := place_cells (w := w) (id := h.length) (cs := (splitL b l).map .s) (ty := none) (C := (K.map Value.string).toArray) (T := 9) (fz := (0, 0)) (H.more [.cells ((splitL b l).map .s) false none]) (by simp) H.fresh (by simp [V.one]) (by simp [hl2]) hcell (by intro j hj; simp)
      refine ⟨_, _, rfl, ?_, HP, ⟨upd_le _ H.fresh, fun k hk => upd_other (by simp at hk; omega)⟩⟩
      have e1 : (splitL b l).length = Lib.countB ⟨l.toArray⟩ ⟨#[b]⟩ + 1 := by rw [hl2, hlen]
      rw [e1]
      refine VR.sl (upd_at _ _ _) (fun _ => rfl) ?_ (Nat.le_refl _) (fun k hk => by injection hk)
      simp [hlen]
    · cases hs
  · cases hs
theorem strsOf_get : ∀ (vs : List V) (ls : List (List UInt8)), strsOf vs = some ls → vs = ls.map .s := by
  intro vs
  induction vs with
  | nil => intro ls h; simp [strsOf] at h; subst h; rfl
  | cons v vs ih =>
    intro ls h
    cases v with
    | s l =>
      simp only [strsOf] at h
      obtain ⟨r, h1, h2⟩ := map1 h
      subst h2
      rw [ih r h1]; rfl
    | _ => simp [strsOf] at h
theorem good_Join : Good Tryd.prog G n_strings_Join oJoin := by
  intro args h v h' hs
  have hbody : ∃ fn, Tryd.prog.funcs[n_strings_Join]? = some fn ∧ fn.body.isSome = true ∧ (fn.name == "runtime.NumGoroutine") = false := ⟨_, Tryd.func43, by kernel_rfl, by kernel_rfl⟩
  unfold oJoin at hs
  split at hs
  · rename_i n _ _ sep
    split at hs
    · rename_i hn
      subst hn
      obtain ⟨rfl, rfl⟩ := pair_inj hs
      refine ⟨hbody, Nat.le_refl _, fun σ B w0 w us hG H hv => ?_⟩
      obtain ⟨u, u', rfl, hu, hu'⟩ := hv.two
      cases hu
      cases hu'
      refine (Tryd.strings_Join_none none 0 ⟨sep.toArray⟩ w).mono ?_
      rintro e w' ⟨rfl, rfl⟩
      exact ⟨σ, _, rfl, .s [], H, Ext.refl _ _ _⟩
    · cases hs
  · rename_i id off n _ sep
    split at hs
    · rename_i ls hg
      split at hs
      · rename_i hc
        obtain ⟨rfl, rfl⟩ := pair_inj hs
        refine ⟨hbody, Nat.le_refl _, fun σ B w0 w us hG H hv => ?_⟩
        obtain ⟨u, u', rfl, hu, hu'⟩ := hv.two
        obtain ⟨cs, hg1, hg2⟩ := Option.bind_eq_some_iff.1 hg
        have hcs := strsOf_get _ _ hg2
        subst hcs
        cases hu' 
        cases hu with
        | sl hl ho hnn hlc hcc =>
          rename_i L o' c
          obtain ⟨hlen, us, hr, hul, hoL, hcell⟩ := H.read hg1 hl
          have hnl : ls.length = n := by simpa using hlen
          subst hnl
          by_cases h0 : ls.length = 0
          · have : ls = [] := List.length_eq_zero_iff.1 h0
            subst this
            refine (Tryd.strings_Join_none (some ⟨L.b, o', none⟩) c ⟨sep.toArray⟩ w).mono ?_
            rintro e w' ⟨rfl, rfl⟩
            exact ⟨σ, _, rfl, .s [], H, Ext.refl _ _ _⟩
          · have ho' := ho (.inl (by omega))
            subst ho'
            have hcells : ∀ (j : Nat) x, (ls.map (fun l => (⟨l.toArray⟩ : ByteArray)))[j]? = some x → w.cell? ⟨L.b, L.o + off + j, none⟩ = some (.string x) := by
              intro j x hx
              rw [List.getElem?_map] at hx
              cases hk : ls[j]? with
              | none => rw [hk] at hx; cases hx
              | some l =>
                rw [hk] at hx
                injection hx with hx
                subst hx
                obtain ⟨u, hu, hvu⟩ := hr.get (j := j) (v := .s l) (by simp [hk])
                cases hvu
                exact hcell j _ hu
            have hdl : (ls.map (fun l => (⟨l.toArray⟩ : ByteArray))).map (·.data.toList) = ls := by simp [List.map_map, Function.comp_def]
            have hsl : (⟨sep.toArray⟩ : ByteArray).data.toList = sep := by simp
            have hj := Tryd.strings_Join L.b (L.o + off) c (ls.map (fun l => ⟨l.toArray⟩)) ⟨sep.toArray⟩ w hcells (H.lt _ _ hl) (by simp; omega) (by simp; omega) (by rw [hdl, hsl, join_lib]; omega)
            rw [hdl, hsl, join_lib, List.length_map] at hj
            refine hj.mono ?_
            rintro e w' ⟨rfl, hb⟩
            exact ⟨σ, _, rfl, .s _, H.grown hb, Ext.refl _ _ _⟩
      · cases hs
    · cases hs
  · cases hs
theorem good_Check : Good Tryd.prog G n_strings_Builder_copyCheck oCheck := by
  intro args h v h' hs
  have hbody : ∃ fn, Tryd.prog.funcs[n_strings_Builder_copyCheck]? = some fn ∧ fn.body.isSome = true ∧ (fn.name == "runtime.NumGoroutine") = false := ⟨_, Tryd.func57, by kernel_rfl, by kernel_rfl⟩
  have hL : Lays.n240 Tryd.prog Tryd.lays165_ren := { Tryd.lays165 with }
  have hX : Builder.X72 Tryd.prog Tryd.lays165_ren := Tryd.Builder_Extra_165.toX72
  unfold oCheck at hs
  split at hs
  · rename_i id
    split at hs
    · rename_i q sv t hid
      split at hs
      · rename_i ht
        subst ht
        split at hs
        · obtain ⟨rfl, rfl⟩ := pair_inj hs
          refine ⟨hbody, by simp, fun σ B w0 w us hG H hv => ?_⟩
          obtain ⟨u, rfl, hu⟩ := hv.one
          cases hu with
          | p hl =>
            rename_i l
            obtain ⟨⟨T, hsh, hT⟩, hle, hfz, hc⟩ := H.obj id _ l hid hl
            obtain ⟨ho, hty, _⟩ := hT tyB rfl
            obtain ⟨hT1, hn1⟩ := hty (Nat.le_of_ble_eq_true rfl)
            obtain ⟨hB, hfr⟩ := hfz rfl
            obtain ⟨_, u0, hu0, hv0⟩ := hc 0 _ rfl
            cases hv0
            rw [ho] at hu0
            subst hT1
            rw [hn1] at hsh
            have hset : Am.setCells h id 0 [.p (some (id, 0))] = some (h.set id (.cells [.p (some (id, 0)), sv] false (some tyB))) := by
              simp [Am.setCells, hid, splice]
            obtain ⟨_, _, HR', _⟩ := H.setCells hset hl (vs := [.pointer (some ⟨l.b, 0, none⟩)]) (.cons (by have := VR.p (σ := σ) (off := 0) hl; rw [ho] at this; exact this) .nil) rfl
            rw [ho] at HR' ⊢
            refine (Any.Builder_copyCheck_fresh hL hX l.b w hu0 hsh (by have := hfr 0 (by rw [hn1]; exact Nat.zero_lt_succ _); exact this)).mono ?_
            rintro e w' ⟨rfl, rfl⟩
            refine ⟨σ, _, rfl, undef_VR, ?_, by rw [List.length_set]; exact Ext.refl _ _ _⟩
            exact HR'
        · rename_i q'
          split at hs
          · rename_i hq
            subst hq
            obtain ⟨rfl, rfl⟩ := pair_inj hs
            refine ⟨hbody, Nat.le_refl _, fun σ B w0 w us hG H hv => ?_⟩
            obtain ⟨u, rfl, hu⟩ := hv.one
            cases hu with
            | p hl =>
              rename_i l
              obtain ⟨⟨T, hsh, hT⟩, hle, hfz, hc⟩ := H.obj id _ l hid hl
              obtain ⟨ho, _, _⟩ := hT tyB rfl
              obtain ⟨_, u0, hu0, hv0⟩ := hc 0 _ rfl
              cases hv0 with
              | p hl2 =>
                rw [hl] at hl2
                injection hl2 with hl2
                subst hl2
                rw [ho] at hu0 ⊢
                refine (Any.Builder_copyCheck_used hL hX l.b w hu0).mono ?_
                rintro e w' ⟨rfl, rfl⟩
                exact ⟨σ, _, rfl, undef_VR, H, Ext.refl _ _ _⟩
          · cases hs
      · cases hs
    · cases hs
  · cases hs
theorem bytesOf_get : ∀ (vs : List V) (l : List UInt8), bytesOf vs = some l → vs.length = l.length ∧ ∀ (j : Nat) x, l[j]? = some x → ∃ n : Int, vs[j]? = some (.i .u8 n) ∧ x = UInt8.ofNat n.toNat := by
  intro vs
  induction vs with
  | nil => intro l h; simp [bytesOf] at h; subst h; exact ⟨rfl, fun j x hx => by simp at hx⟩
  | cons v vs ih =>
    intro l h
    unfold bytesOf at h
    split at h
    · rename_i hh; cases hh
    · rename_i n r hh
      injection hh with h1 h2
      subst h1; subst h2
      obtain ⟨l', h3, h4⟩ := map1 h
      subst h4
      obtain ⟨q1, q2⟩ := ih l' h3
      refine ⟨by simp [q1], fun j x hx => ?_⟩
      cases j with
      | zero => simp at hx; exact ⟨n, rfl, hx.symm⟩
      | succ j => simpa using q2 j x (by simpa using hx)
    · cases h
theorem good_String : Good Tryd.prog G n_strings_Builder_String oString := by
  intro args h v h' hs
  have hbody : ∃ fn, Tryd.prog.funcs[n_strings_Builder_String]? = some fn ∧ fn.body.isSome = true ∧ (fn.name == "runtime.NumGoroutine") = false := ⟨_, Tryd.func45, by kernel_rfl, by kernel_rfl⟩
  unfold oString at hs
  split at hs
  · rename_i id
    split at hs
    · rename_i p a n c z t hid
      split at hs
      · rename_i ht
        subst ht
        split at hs
        · split at hs
          · rename_i hn
            subst hn
            obtain ⟨rfl, rfl⟩ := pair_inj hs
            refine ⟨hbody, Nat.le_refl _, fun σ B w0 w us hG H hv => ?_⟩
            obtain ⟨u, rfl, hu⟩ := hv.one
            cases hu with
            | p hl =>
              rename_i l
              obtain ⟨⟨T, hsh, hT⟩, _, _, hc⟩ := H.obj id _ l hid hl
              obtain ⟨ho, _, _⟩ := hT tyB rfl
              obtain ⟨_, u1, hu1, hv1⟩ := hc 1 _ rfl
              cases hv1
              rw [ho] at hu1 ⊢
              refine (string_none Tryd.lays169 Tryd.Builder_Extra_169 l.b w hu1).mono ?_
              rintro e w' ⟨rfl, rfl⟩
              exact ⟨σ, _, rfl, .s [], H.drew, Ext.refl _ _ _⟩
          · cases hs
        · rename_i bid off
          split at hs
          · rename_i vs e hbid
            split at hs
            · rename_i hc0
              obtain ⟨rfl, rfl, rfl, hne, hpos, hle, hbig⟩ := hc0
              split at hs
              · rename_i l hl
                split at hs
                rotate_left
                · cases hs
                rename_i hsame
                have hsame := sameL_eq hsame
                obtain ⟨rfl, rfl⟩ := pair_inj hs
                refine ⟨hbody, by simp, fun σ B w0 w us hG H hv => ?_⟩
                obtain ⟨u, rfl, hu⟩ := hv.one
                obtain ⟨hln, hlg⟩ := bytesOf_get _ _ hl
                rw [List.length_take, Nat.min_eq_left hle] at hln
                cases hu with
                | p hlo =>
                  rename_i lo
                  obtain ⟨⟨T, hsh, hT⟩, _, _, hc⟩ := H.obj id _ lo hid hlo
                  obtain ⟨ho, _, _⟩ := hT tyB rfl
                  obtain ⟨_, u1, hu1, hv1⟩ := hc 1 _ rfl
                  cases hv1 with
                  | sl hlb hob hnb hcb hccb =>
                    rename_i L o' cp
                    obtain ⟨⟨T2, hsh2, hT2⟩, hle2, hfz2, hcell2⟩ := H.obj bid _ L hbid hlb
                    obtain ⟨ho2, _, hty2⟩ := hT2 tyU8 rfl
                    have hT2e : T2 = Tryd.lays169_ren.t 5 := by
                      have h1 := hty2 (Nat.le_of_ble_eq_true rfl)
                      have h2 : Tryd.lays169_ren.t 5 + 1000000 = tyU8 := rfl
                      exact Nat.add_right_cancel (h1.trans h2.symm)
                    subst hT2e
                    have ho' := hob (.inl hpos)
                    rw [ho2] at ho'
                    subst ho'
                    rw [ho] at hu1 ⊢
                    subst hln
                    have hl0 : l ≠ [] := fun e => by subst e; simp at hpos
                    have hcells : ∀ j x, l[j]? = some x → w.cell? ⟨L.b, j, none⟩ = some (.int .u8 x.toNat) := by
                      intro j x hx
                      have hjl := (List.getElem?_eq_some_iff.1 hx).1
                      have hm : vs[j]? = some (.i .u8 x.toNat) := by
                        rw [← List.getElem?_take_of_lt hjl, hsame]
                        simp [bytesV, hx]
                      obtain ⟨_, u2, hu2, hv2⟩ := hcell2 j _ hm
                      cases hv2
                      rw [ho2, Nat.zero_add] at hu2
                      exact hu2
                    refine (string_exact Tryd.lays169 Tryd.Builder_Extra_169 lo.b L.b L.n cp l w hl0 hu1 (by omega) hsh2 (by omega) (by omega) hcells).mono ?_
                    rintro e w' ⟨rfl, rfl⟩
                    obtain ⟨hB2, _⟩ := hfz2 rfl
                    refine ⟨σ, _, rfl, .s _, ?_, by rw [List.length_set]; exact Ext.refl _ _ _⟩
                    exact H.drew.write (o' := .dead) hbid hlb rfl hB2 (freeze_size _ _ _) (fun k hk => freeze_get _ _ _ _ hk) (Lib.below_freeze H.drew.below hB2 _) trivial
              · cases hs
            · cases hs
          · cases hs
      · cases hs
    · cases hs
  · cases hs
end Am
end Go.Proofs.YtjjkjfdojifchaaDoor
