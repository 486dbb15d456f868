/-
  CASES OF AuditFinds, by the kernel.
  Conditions: none.
-/
import Derived.Test.YthdkpflfkjdhmaaDoorCase
import Derived.KernelRfl
set_option maxRecDepth 1000000
namespace Go.Proofs.YthdkpflfkjdhmaaDoor
namespace Am
theorem f_0_0_3 : findsAt 0 0 3 = true := by kernel_rfl
theorem f_0_1_3 : findsAt 0 1 3 = true := by kernel_rfl
theorem f_0_2_3 : findsAt 0 2 3 = true := by kernel_rfl
theorem f_0_3_3 : findsAt 0 3 3 = true := by kernel_rfl
theorem f_0_4_3 : findsAt 0 4 3 = true := by kernel_rfl
theorem f_0_5_3 : findsAt 0 5 3 = true := by kernel_rfl
theorem f_0_6_3 : findsAt 0 6 3 = true := by kernel_rfl
theorem f_0_7_3 : findsAt 0 7 3 = true := by kernel_rfl
theorem f_1_0_3 : findsAt 1 0 3 = true := by kernel_rfl
theorem f_1_1_3 : findsAt 1 1 3 = true := by kernel_rfl
theorem f_1_2_3 : findsAt 1 2 3 = true := by kernel_rfl
theorem f_1_3_3 : findsAt 1 3 3 = true := by kernel_rfl
theorem f_1_4_3 : findsAt 1 4 3 = true := by kernel_rfl
theorem f_1_5_3 : findsAt 1 5 3 = true := by kernel_rfl
theorem f_1_6_3 : findsAt 1 6 3 = true := by kernel_rfl
theorem f_1_7_3 : findsAt 1 7 3 = true := by kernel_rfl
theorem finds_3 (e h : Nat) (he : e < 2) (hh : h < 8) : findsAt e h 3 = true := by
  match e, h, he, hh with
  | 0, 0, _, _ => exact f_0_0_3
  | 0, 1, _, _ => exact f_0_1_3
  | 0, 2, _, _ => exact f_0_2_3
  | 0, 3, _, _ => exact f_0_3_3
  | 0, 4, _, _ => exact f_0_4_3
  | 0, 5, _, _ => exact f_0_5_3
  | 0, 6, _, _ => exact f_0_6_3
  | 0, 7, _, _ => exact f_0_7_3
  | 1, 0, _, _ => exact f_1_0_3
  | 1, 1, _, _ => exact f_1_1_3
  | 1, 2, _, _ => exact f_1_2_3
  | 1, 3, _, _ => exact f_1_3_3
  | 1, 4, _, _ => exact f_1_4_3
  | 1, 5, _, _ => exact f_1_5_3
  | 1, 6, _, _ => exact f_1_6_3
  | 1, 7, _, _ => exact f_1_7_3
theorem f_0_0_12 : findsAt 0 0 12 = true := by kernel_rfl
theorem f_0_1_12 : findsAt 0 1 12 = true := by kernel_rfl
theorem f_0_2_12 : findsAt 0 2 12 = true := by kernel_rfl
theorem f_0_3_12 : findsAt 0 3 12 = true := by kernel_rfl
theorem f_0_4_12 : findsAt 0 4 12 = true := by kernel_rfl
theorem f_0_5_12 : findsAt 0 5 12 = true := by kernel_rfl
theorem f_0_6_12 : findsAt 0 6 12 = true := by kernel_rfl
theorem f_0_7_12 : findsAt 0 7 12 = true := by kernel_rfl
theorem f_1_0_12 : findsAt 1 0 12 = true := by kernel_rfl
theorem f_1_1_12 : findsAt 1 1 12 = true := by kernel_rfl
theorem f_1_2_12 : findsAt 1 2 12 = true := by kernel_rfl
theorem f_1_3_12 : findsAt 1 3 12 = true := by kernel_rfl
theorem f_1_4_12 : findsAt 1 4 12 = true := by kernel_rfl
theorem f_1_5_12 : findsAt 1 5 12 = true := by kernel_rfl
theorem f_1_6_12 : findsAt 1 6 12 = true := by kernel_rfl
theorem f_1_7_12 : findsAt 1 7 12 = true := by kernel_rfl
theorem finds_12 (e h : Nat) (he : e < 2) (hh : h < 8) : findsAt e h 12 = true := by
  match e, h, he, hh with
  | 0, 0, _, _ => exact f_0_0_12
  | 0, 1, _, _ => exact f_0_1_12
  | 0, 2, _, _ => exact f_0_2_12
  | 0, 3, _, _ => exact f_0_3_12
  | 0, 4, _, _ => exact f_0_4_12
  | 0, 5, _, _ => exact f_0_5_12
  | 0, 6, _, _ => exact f_0_6_12
  | 0, 7, _, _ => exact f_0_7_12
  | 1, 0, _, _ => exact f_1_0_12
  | 1, 1, _, _ => exact f_1_1_12
  | 1, 2, _, _ => exact f_1_2_12
  | 1, 3, _, _ => exact f_1_3_12
  | 1, 4, _, _ => exact f_1_4_12
  | 1, 5, _, _ => exact f_1_5_12
  | 1, 6, _, _ => exact f_1_6_12
  | 1, 7, _, _ => exact f_1_7_12
end Am
end Go.Proofs.YthdkpflfkjdhmaaDoor
