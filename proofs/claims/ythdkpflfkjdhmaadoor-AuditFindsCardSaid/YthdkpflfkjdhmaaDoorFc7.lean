/-
  CASES OF AuditFinds, by the kernel.
  Conditions: none.
-/
import Derived.Test.YthdkpflfkjdhmaaDoorCase
import Derived.KernelRfl
set_option maxRecDepth 1000000
namespace Go.Proofs.YthdkpflfkjdhmaaDoor
namespace Am
theorem f_0_0_7 : findsAt 0 0 7 = true := by kernel_rfl
theorem f_0_1_7 : findsAt 0 1 7 = true := by kernel_rfl
theorem f_0_2_7 : findsAt 0 2 7 = true := by kernel_rfl
theorem f_0_3_7 : findsAt 0 3 7 = true := by kernel_rfl
theorem f_0_4_7 : findsAt 0 4 7 = true := by kernel_rfl
theorem f_0_5_7 : findsAt 0 5 7 = true := by kernel_rfl
theorem f_0_6_7 : findsAt 0 6 7 = true := by kernel_rfl
theorem f_0_7_7 : findsAt 0 7 7 = true := by kernel_rfl
theorem f_1_0_7 : findsAt 1 0 7 = true := by kernel_rfl
theorem f_1_1_7 : findsAt 1 1 7 = true := by kernel_rfl
theorem f_1_2_7 : findsAt 1 2 7 = true := by kernel_rfl
theorem f_1_3_7 : findsAt 1 3 7 = true := by kernel_rfl
theorem f_1_4_7 : findsAt 1 4 7 = true := by kernel_rfl
theorem f_1_5_7 : findsAt 1 5 7 = true := by kernel_rfl
theorem f_1_6_7 : findsAt 1 6 7 = true := by kernel_rfl
theorem f_1_7_7 : findsAt 1 7 7 = true := by kernel_rfl
theorem finds_7 (e h : Nat) (he : e < 2) (hh : h < 8) : findsAt e h 7 = true := by
  match e, h, he, hh with
  | 0, 0, _, _ => exact f_0_0_7
  | 0, 1, _, _ => exact f_0_1_7
  | 0, 2, _, _ => exact f_0_2_7
  | 0, 3, _, _ => exact f_0_3_7
  | 0, 4, _, _ => exact f_0_4_7
  | 0, 5, _, _ => exact f_0_5_7
  | 0, 6, _, _ => exact f_0_6_7
  | 0, 7, _, _ => exact f_0_7_7
  | 1, 0, _, _ => exact f_1_0_7
  | 1, 1, _, _ => exact f_1_1_7
  | 1, 2, _, _ => exact f_1_2_7
  | 1, 3, _, _ => exact f_1_3_7
  | 1, 4, _, _ => exact f_1_4_7
  | 1, 5, _, _ => exact f_1_5_7
  | 1, 6, _, _ => exact f_1_6_7
  | 1, 7, _, _ => exact f_1_7_7
theorem f_0_0_8 : findsAt 0 0 8 = true := by kernel_rfl
theorem f_0_1_8 : findsAt 0 1 8 = true := by kernel_rfl
theorem f_0_2_8 : findsAt 0 2 8 = true := by kernel_rfl
theorem f_0_3_8 : findsAt 0 3 8 = true := by kernel_rfl
theorem f_0_4_8 : findsAt 0 4 8 = true := by kernel_rfl
theorem f_0_5_8 : findsAt 0 5 8 = true := by kernel_rfl
theorem f_0_6_8 : findsAt 0 6 8 = true := by kernel_rfl
theorem f_0_7_8 : findsAt 0 7 8 = true := by kernel_rfl
theorem f_1_0_8 : findsAt 1 0 8 = true := by kernel_rfl
theorem f_1_1_8 : findsAt 1 1 8 = true := by kernel_rfl
theorem f_1_2_8 : findsAt 1 2 8 = true := by kernel_rfl
theorem f_1_3_8 : findsAt 1 3 8 = true := by kernel_rfl
theorem f_1_4_8 : findsAt 1 4 8 = true := by kernel_rfl
theorem f_1_5_8 : findsAt 1 5 8 = true := by kernel_rfl
theorem f_1_6_8 : findsAt 1 6 8 = true := by kernel_rfl
theorem f_1_7_8 : findsAt 1 7 8 = true := by kernel_rfl
theorem finds_8 (e h : Nat) (he : e < 2) (hh : h < 8) : findsAt e h 8 = true := by
  match e, h, he, hh with
  | 0, 0, _, _ => exact f_0_0_8
  | 0, 1, _, _ => exact f_0_1_8
  | 0, 2, _, _ => exact f_0_2_8
  | 0, 3, _, _ => exact f_0_3_8
  | 0, 4, _, _ => exact f_0_4_8
  | 0, 5, _, _ => exact f_0_5_8
  | 0, 6, _, _ => exact f_0_6_8
  | 0, 7, _, _ => exact f_0_7_8
  | 1, 0, _, _ => exact f_1_0_8
  | 1, 1, _, _ => exact f_1_1_8
  | 1, 2, _, _ => exact f_1_2_8
  | 1, 3, _, _ => exact f_1_3_8
  | 1, 4, _, _ => exact f_1_4_8
  | 1, 5, _, _ => exact f_1_5_8
  | 1, 6, _, _ => exact f_1_6_8
  | 1, 7, _, _ => exact f_1_7_8
end Am
end Go.Proofs.YthdkpflfkjdhmaaDoor
