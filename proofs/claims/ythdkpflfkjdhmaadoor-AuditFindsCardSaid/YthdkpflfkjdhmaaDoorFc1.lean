/-
  CASES OF AuditFinds, by the kernel.
  Conditions: none.
-/
import Derived.Test.YthdkpflfkjdhmaaDoorCase
import Derived.KernelRfl
set_option maxRecDepth 1000000
namespace Go.Proofs.YthdkpflfkjdhmaaDoor
namespace Am
theorem f_0_0_1 : findsAt 0 0 1 = true := by kernel_rfl
theorem f_0_1_1 : findsAt 0 1 1 = true := by kernel_rfl
theorem f_0_2_1 : findsAt 0 2 1 = true := by kernel_rfl
theorem f_0_3_1 : findsAt 0 3 1 = true := by kernel_rfl
theorem f_0_4_1 : findsAt 0 4 1 = true := by kernel_rfl
theorem f_0_5_1 : findsAt 0 5 1 = true := by kernel_rfl
theorem f_0_6_1 : findsAt 0 6 1 = true := by kernel_rfl
theorem f_0_7_1 : findsAt 0 7 1 = true := by kernel_rfl
theorem f_1_0_1 : findsAt 1 0 1 = true := by kernel_rfl
theorem f_1_1_1 : findsAt 1 1 1 = true := by kernel_rfl
theorem f_1_2_1 : findsAt 1 2 1 = true := by kernel_rfl
theorem f_1_3_1 : findsAt 1 3 1 = true := by kernel_rfl
theorem f_1_4_1 : findsAt 1 4 1 = true := by kernel_rfl
theorem f_1_5_1 : findsAt 1 5 1 = true := by kernel_rfl
theorem f_1_6_1 : findsAt 1 6 1 = true := by kernel_rfl
theorem f_1_7_1 : findsAt 1 7 1 = true := by kernel_rfl
theorem finds_1 (e h : Nat) (he : e < 2) (hh : h < 8) : findsAt e h 1 = true := by
  match e, h, he, hh with
  | 0, 0, _, _ => exact f_0_0_1
  | 0, 1, _, _ => exact f_0_1_1
  | 0, 2, _, _ => exact f_0_2_1
  | 0, 3, _, _ => exact f_0_3_1
  | 0, 4, _, _ => exact f_0_4_1
  | 0, 5, _, _ => exact f_0_5_1
  | 0, 6, _, _ => exact f_0_6_1
  | 0, 7, _, _ => exact f_0_7_1
  | 1, 0, _, _ => exact f_1_0_1
  | 1, 1, _, _ => exact f_1_1_1
  | 1, 2, _, _ => exact f_1_2_1
  | 1, 3, _, _ => exact f_1_3_1
  | 1, 4, _, _ => exact f_1_4_1
  | 1, 5, _, _ => exact f_1_5_1
  | 1, 6, _, _ => exact f_1_6_1
  | 1, 7, _, _ => exact f_1_7_1
theorem f_0_0_14 : findsAt 0 0 14 = true := by kernel_rfl
theorem f_0_1_14 : findsAt 0 1 14 = true := by kernel_rfl
theorem f_0_2_14 : findsAt 0 2 14 = true := by kernel_rfl
theorem f_0_3_14 : findsAt 0 3 14 = true := by kernel_rfl
theorem f_0_4_14 : findsAt 0 4 14 = true := by kernel_rfl
theorem f_0_5_14 : findsAt 0 5 14 = true := by kernel_rfl
theorem f_0_6_14 : findsAt 0 6 14 = true := by kernel_rfl
theorem f_0_7_14 : findsAt 0 7 14 = true := by kernel_rfl
theorem f_1_0_14 : findsAt 1 0 14 = true := by kernel_rfl
theorem f_1_1_14 : findsAt 1 1 14 = true := by kernel_rfl
theorem f_1_2_14 : findsAt 1 2 14 = true := by kernel_rfl
theorem f_1_3_14 : findsAt 1 3 14 = true := by kernel_rfl
theorem f_1_4_14 : findsAt 1 4 14 = true := by kernel_rfl
theorem f_1_5_14 : findsAt 1 5 14 = true := by kernel_rfl
theorem f_1_6_14 : findsAt 1 6 14 = true := by kernel_rfl
theorem f_1_7_14 : findsAt 1 7 14 = true := by kernel_rfl
theorem finds_14 (e h : Nat) (he : e < 2) (hh : h < 8) : findsAt e h 14 = true := by
  match e, h, he, hh with
  | 0, 0, _, _ => exact f_0_0_14
  | 0, 1, _, _ => exact f_0_1_14
  | 0, 2, _, _ => exact f_0_2_14
  | 0, 3, _, _ => exact f_0_3_14
  | 0, 4, _, _ => exact f_0_4_14
  | 0, 5, _, _ => exact f_0_5_14
  | 0, 6, _, _ => exact f_0_6_14
  | 0, 7, _, _ => exact f_0_7_14
  | 1, 0, _, _ => exact f_1_0_14
  | 1, 1, _, _ => exact f_1_1_14
  | 1, 2, _, _ => exact f_1_2_14
  | 1, 3, _, _ => exact f_1_3_14
  | 1, 4, _, _ => exact f_1_4_14
  | 1, 5, _, _ => exact f_1_5_14
  | 1, 6, _, _ => exact f_1_6_14
  | 1, 7, _, _ => exact f_1_7_14
end Am
end Go.Proofs.YthdkpflfkjdhmaaDoor
