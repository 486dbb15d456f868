/-
  CASES OF AuditFinds, by the kernel.
  Conditions: none.
-/
import Derived.Test.YthdkpflfkjdhmaaDoorCase
import Derived.KernelRfl
set_option maxRecDepth 1000000
namespace Go.Proofs.YthdkpflfkjdhmaaDoor
namespace Am
theorem f_0_0_6 : findsAt 0 0 6 = true := by kernel_rfl
theorem f_0_1_6 : findsAt 0 1 6 = true := by kernel_rfl
theorem f_0_2_6 : findsAt 0 2 6 = true := by kernel_rfl
theorem f_0_3_6 : findsAt 0 3 6 = true := by kernel_rfl
theorem f_0_4_6 : findsAt 0 4 6 = true := by kernel_rfl
theorem f_0_5_6 : findsAt 0 5 6 = true := by kernel_rfl
theorem f_0_6_6 : findsAt 0 6 6 = true := by kernel_rfl
theorem f_0_7_6 : findsAt 0 7 6 = true := by kernel_rfl
theorem f_1_0_6 : findsAt 1 0 6 = true := by kernel_rfl
theorem f_1_1_6 : findsAt 1 1 6 = true := by kernel_rfl
theorem f_1_2_6 : findsAt 1 2 6 = true := by kernel_rfl
theorem f_1_3_6 : findsAt 1 3 6 = true := by kernel_rfl
theorem f_1_4_6 : findsAt 1 4 6 = true := by kernel_rfl
theorem f_1_5_6 : findsAt 1 5 6 = true := by kernel_rfl
theorem f_1_6_6 : findsAt 1 6 6 = true := by kernel_rfl
theorem f_1_7_6 : findsAt 1 7 6 = true := by kernel_rfl
theorem finds_6 (e h : Nat) (he : e < 2) (hh : h < 8) : findsAt e h 6 = true := by
  match e, h, he, hh with
  | 0, 0, _, _ => exact f_0_0_6
  | 0, 1, _, _ => exact f_0_1_6
  | 0, 2, _, _ => exact f_0_2_6
  | 0, 3, _, _ => exact f_0_3_6
  | 0, 4, _, _ => exact f_0_4_6
  | 0, 5, _, _ => exact f_0_5_6
  | 0, 6, _, _ => exact f_0_6_6
  | 0, 7, _, _ => exact f_0_7_6
  | 1, 0, _, _ => exact f_1_0_6
  | 1, 1, _, _ => exact f_1_1_6
  | 1, 2, _, _ => exact f_1_2_6
  | 1, 3, _, _ => exact f_1_3_6
  | 1, 4, _, _ => exact f_1_4_6
  | 1, 5, _, _ => exact f_1_5_6
  | 1, 6, _, _ => exact f_1_6_6
  | 1, 7, _, _ => exact f_1_7_6
theorem f_0_0_9 : findsAt 0 0 9 = true := by kernel_rfl
theorem f_0_1_9 : findsAt 0 1 9 = true := by kernel_rfl
theorem f_0_2_9 : findsAt 0 2 9 = true := by kernel_rfl
theorem f_0_3_9 : findsAt 0 3 9 = true := by kernel_rfl
theorem f_0_4_9 : findsAt 0 4 9 = true := by kernel_rfl
theorem f_0_5_9 : findsAt 0 5 9 = true := by kernel_rfl
theorem f_0_6_9 : findsAt 0 6 9 = true := by kernel_rfl
theorem f_0_7_9 : findsAt 0 7 9 = true := by kernel_rfl
theorem f_1_0_9 : findsAt 1 0 9 = true := by kernel_rfl
theorem f_1_1_9 : findsAt 1 1 9 = true := by kernel_rfl
theorem f_1_2_9 : findsAt 1 2 9 = true := by kernel_rfl
theorem f_1_3_9 : findsAt 1 3 9 = true := by kernel_rfl
theorem f_1_4_9 : findsAt 1 4 9 = true := by kernel_rfl
theorem f_1_5_9 : findsAt 1 5 9 = true := by kernel_rfl
theorem f_1_6_9 : findsAt 1 6 9 = true := by kernel_rfl
theorem f_1_7_9 : findsAt 1 7 9 = true := by kernel_rfl
theorem finds_9 (e h : Nat) (he : e < 2) (hh : h < 8) : findsAt e h 9 = true := by
  match e, h, he, hh with
  | 0, 0, _, _ => exact f_0_0_9
  | 0, 1, _, _ => exact f_0_1_9
  | 0, 2, _, _ => exact f_0_2_9
  | 0, 3, _, _ => exact f_0_3_9
  | 0, 4, _, _ => exact f_0_4_9
  | 0, 5, _, _ => exact f_0_5_9
  | 0, 6, _, _ => exact f_0_6_9
  | 0, 7, _, _ => exact f_0_7_9
  | 1, 0, _, _ => exact f_1_0_9
  | 1, 1, _, _ => exact f_1_1_9
  | 1, 2, _, _ => exact f_1_2_9
  | 1, 3, _, _ => exact f_1_3_9
  | 1, 4, _, _ => exact f_1_4_9
  | 1, 5, _, _ => exact f_1_5_9
  | 1, 6, _, _ => exact f_1_6_9
  | 1, 7, _, _ => exact f_1_7_9
end Am
end Go.Proofs.YthdkpflfkjdhmaaDoor
