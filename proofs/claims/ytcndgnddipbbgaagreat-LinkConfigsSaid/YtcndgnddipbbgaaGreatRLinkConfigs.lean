/-
  THE ROW: LinkConfigs: whatever the configuration, the law returns true, and the input reads as it did. The frame is the guide's shell (proof-skeleton.mjs), turned to rows that list laid variables; the walk is the machine's (YtcndgnddipbbgaaGreatLz2).
-/
import Derived.Test.YtcndgnddipbbgaaGreatRows
import Derived.Test.YtcndgnddipbbgaaGreatLz2
import Derived.Test.YtcndgnddipbbgaaGreatRu1
import Derived.ChangeMaps5
namespace Go.Proofs.YtcndgnddipbbgaaGreat
open Go.ChangeShapes Go.WideShapes Go.ChangeAt Go.RowKit
set_option linter.unusedVariables false
set_option maxRecDepth 100000 in
theorem linkConfigs_lifted (os : Os) (started : os.Started) (H : Type) (enc : TypeId × Value → H) :
    ReturnsInHanded {} Tryz.checked os 3 .any (Rows.linkConfigsSpec.pre6 enc Tryz.prog Tryz.f3 Rows.linkConfigsRow.domain false)
      (Rows.linkConfigsSpec.post enc Tryz.prog Tryz.f3 false true false false) := by
  refine returnsInHanded_of_change (C := Tryz.checked) own started (by kernel_rfl) Tryz.func3
    (ChangeSpec.witness6 (enc := enc) (C := Tryz.checked) false ⟨#[], #[.agg #[.int .i64 0, .int .i64 0, .int .i64 0, .int .i64 0, .int .i64 0, .int .i64 0, .slice none 0 0, .int .i64 0, .int .i64 0, .int .i64 0, .int .i64 0, .int .i64 0, .int .i64 0, .slice none 0 0, .int .i64 0]], []⟩ 8 (by kernel_rfl) (by kernel_rfl) (by kernel_rfl) (by kernel_rfl)) ?_
  intro W base args ds gs before hval0 hW hcnd _
  have hval : ∀ (j : Nat) t v, Tryz.f3.params[j]? = some t → args[j]? = some v → Value.okWide Tryz.prog W .any base t v := hval0
  have hW' := hW
  obtain ⟨p, q, hA0, hV, rfl, hfz, hnd⟩ := hW
  have hA : DataW.TrodAll enc Tryz.prog W 0 (fun _ => true) true Tryz.f3.params.toList args.toList ds p := hA0
  rw [Tryz.params3] at hA hval
  obtain ⟨v0, vs0, d0, ds0, p0, q0, hargs, rfl, rfl, h0, r0⟩ := trodAll_cons hA
  obtain ⟨rfl, rfl, rfl⟩ := trodAll_nil r0
  obtain rfl : args = #[v0] := by cases args; simp_all
  obtain ⟨rfl, rfl⟩ := trodVars_none hV
  have hlt : ∀ p ∈ p0 ++ [], p.block < W.heap.size := fun p hp => hW'.lt p (List.mem_append_left _ hp)
  refine (Am.cfg_walk (hval 0 _ v0 rfl rfl) h0).mono fun e W' ⟨he, hg⟩ => ?_
  subst he
  refine ⟨_, rfl, post_below (ds := [d0]) (gs := []) (pa := p0 ++ []) (pv := []) (before := (p0 ++ []) ++ []) hW' (fun _ _ _ => (trodAll_cons_mk (shut_bool Tryz.underlying4 _) trodAll_mk0)) (fun sp hsp => ?_) (fun _ _ => rfl) rfl hg (ok_one (by kernel_rfl) rfl (okWide_bool_mk Tryz.underlying4 _))⟩
  show DataW.TrodAll enc Tryz.prog W' 0 sp true Tryz.f3.params.toList [v0] [d0] (p0 ++ [])
  exact args_again (P := Tryz.prog) (by kernel_rfl) (by kernel_rfl) (by kernel_rfl) (by rw [Tryz.params3]; decide) hA0 hlt hg sp (fun p hp => hsp p (List.mem_append_left _ hp))
theorem linkConfigs_row : Rows.LinkConfigsSaid :=
  OpenClaim.holds_of_wide 3 Tryz.f3 rfl rfl rfl rfl rfl rfl rfl ⟨rfl, rfl, rfl, rfl, rfl⟩ rfl rfl rfl rfl rfl (by kernel_rfl) Tryz.func3 (by kernel_rfl)
    (of_decide_eq_true (by kernel_rfl)) (by unfold Func.isWrapper; first | (rw [if_pos (by decide +kernel)]; kernel_rfl) | (rw [if_neg (by decide +kernel)]; exact ⟨rfl, rfl⟩))
    (fun os started H enc _ => linkConfigs_lifted os started H enc)
#print axioms linkConfigs_row
end Go.Proofs.YtcndgnddipbbgaaGreat
