/-
  THE ROW AND ITS TIED CARD: TraceKinds. The frame is the guide's shell (proof-skeleton.mjs), turned to rows that list laid variables; the walk is the machine's (YtjjkjfdojifchaaDoorLa7).
-/
import Derived.Test.YtjjkjfdojifchaaDoorRows
import Derived.Test.YtjjkjfdojifchaaDoorCards
import Derived.Test.YtjjkjfdojifchaaDoorTie
import Derived.Test.YtjjkjfdojifchaaDoorLa7
import Derived.Test.YtjjkjfdojifchaaDoorRu1
import Derived.ChangeMaps5
namespace Go.Proofs.YtjjkjfdojifchaaDoor
open Go.ChangeShapes Go.WideShapes Go.ChangeAt Go.RowKit
set_option linter.unusedVariables false
set_option maxRecDepth 100000 in
theorem traceKinds_lifted (os : Os) (started : os.Started) (H : Type) (enc : TypeId × Value → H) :
    ReturnsInHanded {} Tryd.checked os 5 .any (fun w args => (Rows.traceKindsSpec.pre enc Tryd.prog Tryd.f5 [] false w args ∧ laidMetH Tryd.prog Rows.traceKindsRow.laid w) ∧ sizedMet enc Tryd.prog Tryd.f5 (OpenSpec.ofChange Rows.traceKindsSpec) false w args)
      (Rows.traceKindsSpec.post enc Tryd.prog Tryd.f5 false true false false) := by
  refine returns_shaped (C := Tryd.checked) (X := fun w _ => laidMetH Tryd.prog Rows.traceKindsRow.laid w) (fun _ _ _ hh h => h.of_heap hh) own started (by kernel_rfl) Tryd.func5
    (ChangeSpec.witness_at (enc := enc) (C := Tryd.checked) (os := os) (X := fun w _ => laidMetH Tryd.prog Rows.traceKindsRow.laid w) false (World.laidAll Tryd.prog os Rows.traceKindsRow.laid) #[.agg #[.int .i64 0, .int .i64 0, .int .i64 0, .int .i64 0, .int .i64 0, .slice none 0 0, .bool false, .string ⟨#[]⟩]] 8 (World.laidAll_os _ _ _) (by kernel_rfl) (by kernel_rfl) (by kernel_rfl) (by kernel_rfl) (by kernel_rfl)
      (by rw [MakeChecks.laidMetH_plain _ _ _ (by kernel_rfl)]; exact laidMet_laidAll _ (by kernel_rfl) (by kernel_rfl))) ?_
  intro W base args ds gs before hval0 hW hX hsh
  have hval : ∀ (j : Nat) t v, Tryd.f5.params[j]? = some t → args[j]? = some v → Value.okWide Tryd.prog W .any base t v := hval0
  have hW' := hW
  obtain ⟨p, q, hA0, hV, rfl, hfz, hnd⟩ := hW
  have hA : DataW.TrodAll enc Tryd.prog W 0 (fun _ => true) true Tryd.f5.params.toList args.toList ds p := hA0
  rw [Tryd.params5] at hA hval
  obtain ⟨v0, vs0, d0, ds0, p0, q0, hargs, rfl, rfl, h0, r0⟩ := trodAll_cons hA
  obtain ⟨rfl, rfl, rfl⟩ := trodAll_nil r0
  obtain rfl : args = #[v0] := by cases args; simp_all
  obtain ⟨rfl, rfl⟩ := trodVars_none hV
  have hlt : ∀ p ∈ p0 ++ [], p.block < W.heap.size := fun p hp => hW'.lt p (List.mem_append_left _ hp)
  refine (Am.kinds_walk2 hX hsh (hval 0 _ v0 rfl rfl) h0).mono fun e W' ⟨he, hg⟩ => ?_
  subst he
  refine ⟨_, rfl, post_below (ds := [d0]) (gs := []) (pa := p0 ++ []) (pv := []) (before := (p0 ++ []) ++ []) hW' (fun _ _ _ => (trodAll_cons_mk (shut_bool Tryd.underlying4 _) trodAll_mk0)) (fun sp hsp => ?_) (fun _ _ => rfl) rfl hg (ok_one (by kernel_rfl) rfl (okWide_bool_mk Tryd.underlying4 _))⟩
  show DataW.TrodAll enc Tryd.prog W' 0 sp true Tryd.f5.params.toList [v0] [d0] (p0 ++ [])
  exact args_again (P := Tryd.prog) (by kernel_rfl) (by kernel_rfl) (by kernel_rfl) (by rw [Tryd.params5]; decide) hA0 hlt hg sp (fun p hp => hsp p (List.mem_append_left _ hp))
theorem traceKinds_row : Rows.TraceKindsSaid :=
  OpenClaim.holds_of_wide 5 Tryd.f5 rfl rfl rfl rfl rfl rfl rfl ⟨rfl, rfl, rfl, rfl, rfl⟩ rfl rfl rfl rfl rfl (by kernel_rfl) Tryd.func5 (by kernel_rfl)
    (of_decide_eq_true (by kernel_rfl)) (by unfold Func.isWrapper; first | (rw [if_pos (by decide +kernel)]; kernel_rfl) | (rw [if_neg (by decide +kernel)]; exact ⟨rfl, rfl⟩))
    (fun os started H enc _ => traceKinds_lifted os started H enc)
theorem traceKinds_card : Rows.TraceKindsCardSaid :=
  Claim7.holds_tied_plain_at .later [] [.data, .data, .data, .data, .sentinel, .sentinel, .data, .pinned] true (true, "64548b6113fc20d2f6fe8161f6895ddff3da4b7712b148d185aedc9fbd237e06") true
    traceKinds_row (fun _ h => by cases h) (by kernel_rfl) (fun _ h => by cases h) traceKinds_row_tie rfl ⟨rfl, rfl⟩ (by kernel_rfl) rfl
    (fun f fn hf hfn => by
      obtain rfl : f = 5 := Option.some.inj ((show Tryd.prog.funcNamed "polliwog/polliwoglaw19.TraceKinds" = some 5 by kernel_rfl).symm.trans hf) |>.symm
      obtain rfl : fn = Tryd.f5 := (Option.some.inj (Tryd.func5.symm.trans hfn)).symm
      exact ⟨by kernel_rfl, fun j t ht => by
        rw [Tryd.params5] at ht
        rcases j with _ | j
        · obtain rfl : 37 = t := by simpa using ht
          exact (show Tryd.prog.wantsStandIn 37 = false by kernel_rfl)
        · simp at ht⟩)
    (by kernel_rfl)
#print axioms traceKinds_card
end Go.Proofs.YtjjkjfdojifchaaDoor
