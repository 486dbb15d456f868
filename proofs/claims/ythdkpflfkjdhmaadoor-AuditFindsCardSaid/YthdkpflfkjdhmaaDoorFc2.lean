/-
  CASES OF AuditFinds, by the kernel.
  Conditions: none.
-/
import Derived.Test.YthdkpflfkjdhmaaDoorCase
import Derived.KernelRfl
set_option maxRecDepth 1000000
namespace Go.Proofs.YthdkpflfkjdhmaaDoor
namespace Am
theorem f_0_0_2 : findsAt 0 0 2 = true := by kernel_rfl
theorem f_0_1_2 : findsAt 0 1 2 = true := by kernel_rfl
theorem f_0_2_2 : findsAt 0 2 2 = true := by kernel_rfl
theorem f_0_3_2 : findsAt 0 3 2 = true := by kernel_rfl
theorem f_0_4_2 : findsAt 0 4 2 = true := by kernel_rfl
theorem f_0_5_2 : findsAt 0 5 2 = true := by kernel_rfl
theorem f_0_6_2 : findsAt 0 6 2 = true := by kernel_rfl
theorem f_0_7_2 : findsAt 0 7 2 = true := by kernel_rfl
theorem f_1_0_2 : findsAt 1 0 2 = true := by kernel_rfl
theorem f_1_1_2 : findsAt 1 1 2 = true := by kernel_rfl
theorem f_1_2_2 : findsAt 1 2 2 = true := by kernel_rfl
theorem f_1_3_2 : findsAt 1 3 2 = true := by kernel_rfl
theorem f_1_4_2 : findsAt 1 4 2 = true := by kernel_rfl
theorem f_1_5_2 : findsAt 1 5 2 = true := by kernel_rfl
theorem f_1_6_2 : findsAt 1 6 2 = true := by kernel_rfl
theorem f_1_7_2 : findsAt 1 7 2 = true := by kernel_rfl
theorem finds_2 (e h : Nat) (he : e < 2) (hh : h < 8) : findsAt e h 2 = true := by
  match e, h, he, hh with
  | 0, 0, _, _ => exact f_0_0_2
  | 0, 1, _, _ => exact f_0_1_2
  | 0, 2, _, _ => exact f_0_2_2
  | 0, 3, _, _ => exact f_0_3_2
  | 0, 4, _, _ => exact f_0_4_2
  | 0, 5, _, _ => exact f_0_5_2
  | 0, 6, _, _ => exact f_0_6_2
  | 0, 7, _, _ => exact f_0_7_2
  | 1, 0, _, _ => exact f_1_0_2
  | 1, 1, _, _ => exact f_1_1_2
  | 1, 2, _, _ => exact f_1_2_2
  | 1, 3, _, _ => exact f_1_3_2
  | 1, 4, _, _ => exact f_1_4_2
  | 1, 5, _, _ => exact f_1_5_2
  | 1, 6, _, _ => exact f_1_6_2
  | 1, 7, _, _ => exact f_1_7_2
theorem f_0_0_13 : findsAt 0 0 13 = true := by kernel_rfl
theorem f_0_1_13 : findsAt 0 1 13 = true := by kernel_rfl
theorem f_0_2_13 : findsAt 0 2 13 = true := by kernel_rfl
theorem f_0_3_13 : findsAt 0 3 13 = true := by kernel_rfl
theorem f_0_4_13 : findsAt 0 4 13 = true := by kernel_rfl
theorem f_0_5_13 : findsAt 0 5 13 = true := by kernel_rfl
theorem f_0_6_13 : findsAt 0 6 13 = true := by kernel_rfl
theorem f_0_7_13 : findsAt 0 7 13 = true := by kernel_rfl
theorem f_1_0_13 : findsAt 1 0 13 = true := by kernel_rfl
theorem f_1_1_13 : findsAt 1 1 13 = true := by kernel_rfl
theorem f_1_2_13 : findsAt 1 2 13 = true := by kernel_rfl
theorem f_1_3_13 : findsAt 1 3 13 = true := by kernel_rfl
theorem f_1_4_13 : findsAt 1 4 13 = true := by kernel_rfl
theorem f_1_5_13 : findsAt 1 5 13 = true := by kernel_rfl
theorem f_1_6_13 : findsAt 1 6 13 = true := by kernel_rfl
theorem f_1_7_13 : findsAt 1 7 13 = true := by kernel_rfl
theorem finds_13 (e h : Nat) (he : e < 2) (hh : h < 8) : findsAt e h 13 = true := by
  match e, h, he, hh with
  | 0, 0, _, _ => exact f_0_0_13
  | 0, 1, _, _ => exact f_0_1_13
  | 0, 2, _, _ => exact f_0_2_13
  | 0, 3, _, _ => exact f_0_3_13
  | 0, 4, _, _ => exact f_0_4_13
  | 0, 5, _, _ => exact f_0_5_13
  | 0, 6, _, _ => exact f_0_6_13
  | 0, 7, _, _ => exact f_0_7_13
  | 1, 0, _, _ => exact f_1_0_13
  | 1, 1, _, _ => exact f_1_1_13
  | 1, 2, _, _ => exact f_1_2_13
  | 1, 3, _, _ => exact f_1_3_13
  | 1, 4, _, _ => exact f_1_4_13
  | 1, 5, _, _ => exact f_1_5_13
  | 1, 6, _, _ => exact f_1_6_13
  | 1, 7, _, _ => exact f_1_7_13
end Am
end Go.Proofs.YthdkpflfkjdhmaaDoor
