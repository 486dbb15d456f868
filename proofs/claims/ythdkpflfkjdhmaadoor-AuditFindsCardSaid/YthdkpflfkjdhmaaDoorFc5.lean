/-
  CASES OF AuditFinds, by the kernel.
  Conditions: none.
-/
import Derived.Test.YthdkpflfkjdhmaaDoorCase
import Derived.KernelRfl
set_option maxRecDepth 1000000
namespace Go.Proofs.YthdkpflfkjdhmaaDoor
namespace Am
theorem f_0_0_5 : findsAt 0 0 5 = true := by kernel_rfl
theorem f_0_1_5 : findsAt 0 1 5 = true := by kernel_rfl
theorem f_0_2_5 : findsAt 0 2 5 = true := by kernel_rfl
theorem f_0_3_5 : findsAt 0 3 5 = true := by kernel_rfl
theorem f_0_4_5 : findsAt 0 4 5 = true := by kernel_rfl
theorem f_0_5_5 : findsAt 0 5 5 = true := by kernel_rfl
theorem f_0_6_5 : findsAt 0 6 5 = true := by kernel_rfl
theorem f_0_7_5 : findsAt 0 7 5 = true := by kernel_rfl
theorem f_1_0_5 : findsAt 1 0 5 = true := by kernel_rfl
theorem f_1_1_5 : findsAt 1 1 5 = true := by kernel_rfl
theorem f_1_2_5 : findsAt 1 2 5 = true := by kernel_rfl
theorem f_1_3_5 : findsAt 1 3 5 = true := by kernel_rfl
theorem f_1_4_5 : findsAt 1 4 5 = true := by kernel_rfl
theorem f_1_5_5 : findsAt 1 5 5 = true := by kernel_rfl
theorem f_1_6_5 : findsAt 1 6 5 = true := by kernel_rfl
theorem f_1_7_5 : findsAt 1 7 5 = true := by kernel_rfl
theorem finds_5 (e h : Nat) (he : e < 2) (hh : h < 8) : findsAt e h 5 = true := by
  match e, h, he, hh with
  | 0, 0, _, _ => exact f_0_0_5
  | 0, 1, _, _ => exact f_0_1_5
  | 0, 2, _, _ => exact f_0_2_5
  | 0, 3, _, _ => exact f_0_3_5
  | 0, 4, _, _ => exact f_0_4_5
  | 0, 5, _, _ => exact f_0_5_5
  | 0, 6, _, _ => exact f_0_6_5
  | 0, 7, _, _ => exact f_0_7_5
  | 1, 0, _, _ => exact f_1_0_5
  | 1, 1, _, _ => exact f_1_1_5
  | 1, 2, _, _ => exact f_1_2_5
  | 1, 3, _, _ => exact f_1_3_5
  | 1, 4, _, _ => exact f_1_4_5
  | 1, 5, _, _ => exact f_1_5_5
  | 1, 6, _, _ => exact f_1_6_5
  | 1, 7, _, _ => exact f_1_7_5
theorem f_0_0_10 : findsAt 0 0 10 = true := by kernel_rfl
theorem f_0_1_10 : findsAt 0 1 10 = true := by kernel_rfl
theorem f_0_2_10 : findsAt 0 2 10 = true := by kernel_rfl
theorem f_0_3_10 : findsAt 0 3 10 = true := by kernel_rfl
theorem f_0_4_10 : findsAt 0 4 10 = true := by kernel_rfl
theorem f_0_5_10 : findsAt 0 5 10 = true := by kernel_rfl
theorem f_0_6_10 : findsAt 0 6 10 = true := by kernel_rfl
theorem f_0_7_10 : findsAt 0 7 10 = true := by kernel_rfl
theorem f_1_0_10 : findsAt 1 0 10 = true := by kernel_rfl
theorem f_1_1_10 : findsAt 1 1 10 = true := by kernel_rfl
theorem f_1_2_10 : findsAt 1 2 10 = true := by kernel_rfl
theorem f_1_3_10 : findsAt 1 3 10 = true := by kernel_rfl
theorem f_1_4_10 : findsAt 1 4 10 = true := by kernel_rfl
theorem f_1_5_10 : findsAt 1 5 10 = true := by kernel_rfl
theorem f_1_6_10 : findsAt 1 6 10 = true := by kernel_rfl
theorem f_1_7_10 : findsAt 1 7 10 = true := by kernel_rfl
theorem finds_10 (e h : Nat) (he : e < 2) (hh : h < 8) : findsAt e h 10 = true := by
  match e, h, he, hh with
  | 0, 0, _, _ => exact f_0_0_10
  | 0, 1, _, _ => exact f_0_1_10
  | 0, 2, _, _ => exact f_0_2_10
  | 0, 3, _, _ => exact f_0_3_10
  | 0, 4, _, _ => exact f_0_4_10
  | 0, 5, _, _ => exact f_0_5_10
  | 0, 6, _, _ => exact f_0_6_10
  | 0, 7, _, _ => exact f_0_7_10
  | 1, 0, _, _ => exact f_1_0_10
  | 1, 1, _, _ => exact f_1_1_10
  | 1, 2, _, _ => exact f_1_2_10
  | 1, 3, _, _ => exact f_1_3_10
  | 1, 4, _, _ => exact f_1_4_10
  | 1, 5, _, _ => exact f_1_5_10
  | 1, 6, _, _ => exact f_1_6_10
  | 1, 7, _, _ => exact f_1_7_10
end Am
end Go.Proofs.YthdkpflfkjdhmaaDoor
