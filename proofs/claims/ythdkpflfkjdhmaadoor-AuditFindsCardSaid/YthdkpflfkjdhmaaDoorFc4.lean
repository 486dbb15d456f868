/-
  CASES OF AuditFinds, by the kernel.
  Conditions: none.
-/
import Derived.Test.YthdkpflfkjdhmaaDoorCase
import Derived.KernelRfl
set_option maxRecDepth 1000000
namespace Go.Proofs.YthdkpflfkjdhmaaDoor
namespace Am
theorem f_0_0_4 : findsAt 0 0 4 = true := by kernel_rfl
theorem f_0_1_4 : findsAt 0 1 4 = true := by kernel_rfl
theorem f_0_2_4 : findsAt 0 2 4 = true := by kernel_rfl
theorem f_0_3_4 : findsAt 0 3 4 = true := by kernel_rfl
theorem f_0_4_4 : findsAt 0 4 4 = true := by kernel_rfl
theorem f_0_5_4 : findsAt 0 5 4 = true := by kernel_rfl
theorem f_0_6_4 : findsAt 0 6 4 = true := by kernel_rfl
theorem f_0_7_4 : findsAt 0 7 4 = true := by kernel_rfl
theorem f_1_0_4 : findsAt 1 0 4 = true := by kernel_rfl
theorem f_1_1_4 : findsAt 1 1 4 = true := by kernel_rfl
theorem f_1_2_4 : findsAt 1 2 4 = true := by kernel_rfl
theorem f_1_3_4 : findsAt 1 3 4 = true := by kernel_rfl
theorem f_1_4_4 : findsAt 1 4 4 = true := by kernel_rfl
theorem f_1_5_4 : findsAt 1 5 4 = true := by kernel_rfl
theorem f_1_6_4 : findsAt 1 6 4 = true := by kernel_rfl
theorem f_1_7_4 : findsAt 1 7 4 = true := by kernel_rfl
theorem finds_4 (e h : Nat) (he : e < 2) (hh : h < 8) : findsAt e h 4 = true := by
  match e, h, he, hh with
  | 0, 0, _, _ => exact f_0_0_4
  | 0, 1, _, _ => exact f_0_1_4
  | 0, 2, _, _ => exact f_0_2_4
  | 0, 3, _, _ => exact f_0_3_4
  | 0, 4, _, _ => exact f_0_4_4
  | 0, 5, _, _ => exact f_0_5_4
  | 0, 6, _, _ => exact f_0_6_4
  | 0, 7, _, _ => exact f_0_7_4
  | 1, 0, _, _ => exact f_1_0_4
  | 1, 1, _, _ => exact f_1_1_4
  | 1, 2, _, _ => exact f_1_2_4
  | 1, 3, _, _ => exact f_1_3_4
  | 1, 4, _, _ => exact f_1_4_4
  | 1, 5, _, _ => exact f_1_5_4
  | 1, 6, _, _ => exact f_1_6_4
  | 1, 7, _, _ => exact f_1_7_4
theorem f_0_0_11 : findsAt 0 0 11 = true := by kernel_rfl
theorem f_0_1_11 : findsAt 0 1 11 = true := by kernel_rfl
theorem f_0_2_11 : findsAt 0 2 11 = true := by kernel_rfl
theorem f_0_3_11 : findsAt 0 3 11 = true := by kernel_rfl
theorem f_0_4_11 : findsAt 0 4 11 = true := by kernel_rfl
theorem f_0_5_11 : findsAt 0 5 11 = true := by kernel_rfl
theorem f_0_6_11 : findsAt 0 6 11 = true := by kernel_rfl
theorem f_0_7_11 : findsAt 0 7 11 = true := by kernel_rfl
theorem f_1_0_11 : findsAt 1 0 11 = true := by kernel_rfl
theorem f_1_1_11 : findsAt 1 1 11 = true := by kernel_rfl
theorem f_1_2_11 : findsAt 1 2 11 = true := by kernel_rfl
theorem f_1_3_11 : findsAt 1 3 11 = true := by kernel_rfl
theorem f_1_4_11 : findsAt 1 4 11 = true := by kernel_rfl
theorem f_1_5_11 : findsAt 1 5 11 = true := by kernel_rfl
theorem f_1_6_11 : findsAt 1 6 11 = true := by kernel_rfl
theorem f_1_7_11 : findsAt 1 7 11 = true := by kernel_rfl
theorem finds_11 (e h : Nat) (he : e < 2) (hh : h < 8) : findsAt e h 11 = true := by
  match e, h, he, hh with
  | 0, 0, _, _ => exact f_0_0_11
  | 0, 1, _, _ => exact f_0_1_11
  | 0, 2, _, _ => exact f_0_2_11
  | 0, 3, _, _ => exact f_0_3_11
  | 0, 4, _, _ => exact f_0_4_11
  | 0, 5, _, _ => exact f_0_5_11
  | 0, 6, _, _ => exact f_0_6_11
  | 0, 7, _, _ => exact f_0_7_11
  | 1, 0, _, _ => exact f_1_0_11
  | 1, 1, _, _ => exact f_1_1_11
  | 1, 2, _, _ => exact f_1_2_11
  | 1, 3, _, _ => exact f_1_3_11
  | 1, 4, _, _ => exact f_1_4_11
  | 1, 5, _, _ => exact f_1_5_11
  | 1, 6, _, _ => exact f_1_6_11
  | 1, 7, _, _ => exact f_1_7_11
end Am
end Go.Proofs.YthdkpflfkjdhmaaDoor
