/-
  CASES OF AuditFinds, by the kernel.
  Conditions: none.
-/
import Derived.Test.YthdkpflfkjdhmaaDoorCase
import Derived.KernelRfl
set_option maxRecDepth 1000000
namespace Go.Proofs.YthdkpflfkjdhmaaDoor
namespace Am
theorem f_0_0_0 : findsAt 0 0 0 = true := by kernel_rfl
theorem f_0_1_0 : findsAt 0 1 0 = true := by kernel_rfl
theorem f_0_2_0 : findsAt 0 2 0 = true := by kernel_rfl
theorem f_0_3_0 : findsAt 0 3 0 = true := by kernel_rfl
theorem f_0_4_0 : findsAt 0 4 0 = true := by kernel_rfl
theorem f_0_5_0 : findsAt 0 5 0 = true := by kernel_rfl
theorem f_0_6_0 : findsAt 0 6 0 = true := by kernel_rfl
theorem f_0_7_0 : findsAt 0 7 0 = true := by kernel_rfl
theorem f_1_0_0 : findsAt 1 0 0 = true := by kernel_rfl
theorem f_1_1_0 : findsAt 1 1 0 = true := by kernel_rfl
theorem f_1_2_0 : findsAt 1 2 0 = true := by kernel_rfl
theorem f_1_3_0 : findsAt 1 3 0 = true := by kernel_rfl
theorem f_1_4_0 : findsAt 1 4 0 = true := by kernel_rfl
theorem f_1_5_0 : findsAt 1 5 0 = true := by kernel_rfl
theorem f_1_6_0 : findsAt 1 6 0 = true := by kernel_rfl
theorem f_1_7_0 : findsAt 1 7 0 = true := by kernel_rfl
theorem finds_0 (e h : Nat) (he : e < 2) (hh : h < 8) : findsAt e h 0 = true := by
  match e, h, he, hh with
  | 0, 0, _, _ => exact f_0_0_0
  | 0, 1, _, _ => exact f_0_1_0
  | 0, 2, _, _ => exact f_0_2_0
  | 0, 3, _, _ => exact f_0_3_0
  | 0, 4, _, _ => exact f_0_4_0
  | 0, 5, _, _ => exact f_0_5_0
  | 0, 6, _, _ => exact f_0_6_0
  | 0, 7, _, _ => exact f_0_7_0
  | 1, 0, _, _ => exact f_1_0_0
  | 1, 1, _, _ => exact f_1_1_0
  | 1, 2, _, _ => exact f_1_2_0
  | 1, 3, _, _ => exact f_1_3_0
  | 1, 4, _, _ => exact f_1_4_0
  | 1, 5, _, _ => exact f_1_5_0
  | 1, 6, _, _ => exact f_1_6_0
  | 1, 7, _, _ => exact f_1_7_0
theorem f_0_0_15 : findsAt 0 0 15 = true := by kernel_rfl
theorem f_0_1_15 : findsAt 0 1 15 = true := by kernel_rfl
theorem f_0_2_15 : findsAt 0 2 15 = true := by kernel_rfl
theorem f_0_3_15 : findsAt 0 3 15 = true := by kernel_rfl
theorem f_0_4_15 : findsAt 0 4 15 = true := by kernel_rfl
theorem f_0_5_15 : findsAt 0 5 15 = true := by kernel_rfl
theorem f_0_6_15 : findsAt 0 6 15 = true := by kernel_rfl
theorem f_0_7_15 : findsAt 0 7 15 = true := by kernel_rfl
theorem f_1_0_15 : findsAt 1 0 15 = true := by kernel_rfl
theorem f_1_1_15 : findsAt 1 1 15 = true := by kernel_rfl
theorem f_1_2_15 : findsAt 1 2 15 = true := by kernel_rfl
theorem f_1_3_15 : findsAt 1 3 15 = true := by kernel_rfl
theorem f_1_4_15 : findsAt 1 4 15 = true := by kernel_rfl
theorem f_1_5_15 : findsAt 1 5 15 = true := by kernel_rfl
theorem f_1_6_15 : findsAt 1 6 15 = true := by kernel_rfl
theorem f_1_7_15 : findsAt 1 7 15 = true := by kernel_rfl
theorem finds_15 (e h : Nat) (he : e < 2) (hh : h < 8) : findsAt e h 15 = true := by
  match e, h, he, hh with
  | 0, 0, _, _ => exact f_0_0_15
  | 0, 1, _, _ => exact f_0_1_15
  | 0, 2, _, _ => exact f_0_2_15
  | 0, 3, _, _ => exact f_0_3_15
  | 0, 4, _, _ => exact f_0_4_15
  | 0, 5, _, _ => exact f_0_5_15
  | 0, 6, _, _ => exact f_0_6_15
  | 0, 7, _, _ => exact f_0_7_15
  | 1, 0, _, _ => exact f_1_0_15
  | 1, 1, _, _ => exact f_1_1_15
  | 1, 2, _, _ => exact f_1_2_15
  | 1, 3, _, _ => exact f_1_3_15
  | 1, 4, _, _ => exact f_1_4_15
  | 1, 5, _, _ => exact f_1_5_15
  | 1, 6, _, _ => exact f_1_6_15
  | 1, 7, _, _ => exact f_1_7_15
end Am
end Go.Proofs.YthdkpflfkjdhmaaDoor
