/-
  THE ROW AND ITS TIED CARD: TraceRecords. The frame is the guide's shell (proof-skeleton.mjs), turned to rows that list laid variables; the walk is the machine's (YtjjkjfdojifchaaGreatDoorLa8).
-/
import Derived.Test.YtjjkjfdojifchaaGreatDoorRows
import Derived.Test.YtjjkjfdojifchaaGreatDoorCards
import Derived.Test.YtjjkjfdojifchaaGreatDoorTie
import Derived.Test.YtjjkjfdojifchaaGreatDoorLa8
import Derived.Test.YtjjkjfdojifchaaGreatDoorRu1
import Derived.ChangeMaps5
namespace Go.Proofs.YtjjkjfdojifchaaGreatDoor
open Go.ChangeShapes Go.WideShapes Go.ChangeAt Go.RowKit
set_option linter.unusedVariables false
set_option maxRecDepth 100000 in
theorem traceRecords_lifted (os : Os) (started : os.Started) (H : Type) (enc : TypeId × Value → H) :
    ReturnsInHanded {} Tryz.checked os 4 .any (fun w args => (Rows.traceRecordsSpec.pre enc Tryz.prog Tryz.f4 [] false w args ∧ laidMetH Tryz.prog Rows.traceRecordsRow.laid w) ∧ sizedMet enc Tryz.prog Tryz.f4 (OpenSpec.ofChange Rows.traceRecordsSpec) false w args)
      (Rows.traceRecordsSpec.post enc Tryz.prog Tryz.f4 false true false false) := by
  refine returns_shaped (C := Tryz.checked) (X := fun w _ => laidMetH Tryz.prog Rows.traceRecordsRow.laid w) (fun _ _ _ hh h => h.of_heap hh) own started (by kernel_rfl) Tryz.func4
    (ChangeSpec.witness_at (enc := enc) (C := Tryz.checked) (os := os) (X := fun w _ => laidMetH Tryz.prog Rows.traceRecordsRow.laid w) false (World.laidAll Tryz.prog os Rows.traceRecordsRow.laid) #[.agg #[.int .i64 0, .int .i64 0, .int .i64 0, .int .i64 0, .int .u32 0, .int .u32 0, .int .u32 0, .slice none 0 0, .bool false, .string ⟨#[]⟩, .int .i64 0, .string ⟨#[]⟩, .bool false, .int .u8 0, .int .i64 0, .int .i64 0, .string ⟨#[]⟩, .int .i64 0], .agg #[.int .i64 0, .int .i64 0, .int .i64 0, .int .i64 0, .int .i64 0, .slice none 0 0, .bool false, .string ⟨#[]⟩]] 8 (World.laidAll_os _ _ _) (by kernel_rfl) (by kernel_rfl) (by kernel_rfl) (by kernel_rfl) (by kernel_rfl)
      (by rw [MakeChecks.laidMetH_plain _ _ _ (by kernel_rfl)]; exact laidMet_laidAll _ (by kernel_rfl) (by kernel_rfl))) ?_
  intro W base args ds gs before hval0 hW hX hsh
  have hval : ∀ (j : Nat) t v, Tryz.f4.params[j]? = some t → args[j]? = some v → Value.okWide Tryz.prog W .any base t v := hval0
  have hW' := hW
  obtain ⟨p, q, hA0, hV, rfl, hfz, hnd⟩ := hW
  have hA : DataW.TrodAll enc Tryz.prog W 0 (fun _ => true) true Tryz.f4.params.toList args.toList ds p := hA0
  rw [Tryz.params4] at hA hval
  obtain ⟨v0, vs0, d0, ds0, p0, q0, hargs, rfl, rfl, h0, r0⟩ := trodAll_cons hA
  obtain ⟨v1, vs1, d1, ds1, p1, q1, rfl, rfl, rfl, h1, r1⟩ := trodAll_cons r0
  obtain ⟨rfl, rfl, rfl⟩ := trodAll_nil r1
  obtain rfl : args = #[v0, v1] := by cases args; simp_all
  obtain ⟨rfl, rfl⟩ := trodVars_none hV
  have hlt : ∀ p ∈ p0 ++ (p1 ++ []), p.block < W.heap.size := fun p hp => hW'.lt p (List.mem_append_left _ hp)
  refine (Am.recs_walk hX hsh (hval 0 _ v0 rfl rfl) h0 (hval 1 _ v1 rfl rfl) h1).mono fun e W' ⟨he, hg⟩ => ?_
  subst he
  refine ⟨_, rfl, post_below (ds := [d0, d1]) (gs := []) (pa := p0 ++ (p1 ++ [])) (pv := []) (before := (p0 ++ (p1 ++ [])) ++ []) hW' (fun _ _ _ => (trodAll_cons_mk (shut_bool Tryz.underlying4 _) trodAll_mk0)) (fun sp hsp => ?_) (fun _ _ => rfl) rfl hg (ok_one (by kernel_rfl) rfl (okWide_bool_mk Tryz.underlying4 _))⟩
  show DataW.TrodAll enc Tryz.prog W' 0 sp true Tryz.f4.params.toList [v0, v1] [d0, d1] (p0 ++ (p1 ++ []))
  exact args_again (P := Tryz.prog) (by kernel_rfl) (by kernel_rfl) (by kernel_rfl) (by rw [Tryz.params4]; decide) hA0 hlt hg sp (fun p hp => hsp p (List.mem_append_left _ hp))
theorem traceRecords_row : Rows.TraceRecordsSaid :=
  OpenClaim.holds_of_wide 4 Tryz.f4 rfl rfl rfl rfl rfl rfl rfl ⟨rfl, rfl, rfl, rfl, rfl⟩ rfl rfl rfl rfl rfl (by kernel_rfl) Tryz.func4 (by kernel_rfl)
    (of_decide_eq_true (by kernel_rfl)) (by unfold Func.isWrapper; first | (rw [if_pos (by decide +kernel)]; kernel_rfl) | (rw [if_neg (by decide +kernel)]; exact ⟨rfl, rfl⟩))
    (fun os started H enc _ => traceRecords_lifted os started H enc)
theorem traceRecords_card : Rows.TraceRecordsCardSaid :=
  Claim7.holds_tied_plain_at .later [] [.data, .data, .data, .data, .sentinel, .sentinel, .data, .pinned] true (true, "2e7dd01854f05da3f70919b1799bbd4e393f2ddcdace171f32c3afb0691a5f66") true
    traceRecords_row (fun _ h => by cases h) (by kernel_rfl) (fun _ h => by cases h) traceRecords_row_tie rfl ⟨rfl, rfl⟩ (by kernel_rfl) rfl
    (fun f fn hf hfn => by
      obtain rfl : f = 4 := Option.some.inj ((show Tryz.prog.funcNamed "polliwog/polliwoglaw19.TraceRecords" = some 4 by kernel_rfl).symm.trans hf) |>.symm
      obtain rfl : fn = Tryz.f4 := (Option.some.inj (Tryz.func4.symm.trans hfn)).symm
      exact ⟨by kernel_rfl, fun j t ht => by
        rw [Tryz.params4] at ht
        rcases j with _ | j
        · obtain rfl : 45 = t := by simpa using ht
          exact (show Tryz.prog.wantsStandIn 45 = false by kernel_rfl)
        · rcases j with _ | j
          · obtain rfl : 24 = t := by simpa using ht
            exact (show Tryz.prog.wantsStandIn 24 = false by kernel_rfl)
          · simp at ht⟩)
    (by kernel_rfl)
#print axioms traceRecords_card
end Go.Proofs.YtjjkjfdojifchaaGreatDoor
