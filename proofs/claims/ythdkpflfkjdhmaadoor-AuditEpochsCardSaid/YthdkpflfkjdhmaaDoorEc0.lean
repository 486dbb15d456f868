/-
  CASES OF AuditEpochs, by the kernel.
  Conditions: none.
-/
import Derived.Test.YthdkpflfkjdhmaaDoorCase
import Derived.KernelRfl
set_option maxRecDepth 1000000
namespace Go.Proofs.YthdkpflfkjdhmaaDoor
namespace Am
theorem p_0_0 : epochsAt 0 0 = true := by kernel_rfl
theorem p_0_1 : epochsAt 0 1 = true := by kernel_rfl
theorem p_0_2 : epochsAt 0 2 = true := by kernel_rfl
theorem epochs_0 (h : Nat) (hh : h < 3) : epochsAt 0 h = true := by
  match h, hh with
  | 0, _ => exact p_0_0
  | 1, _ => exact p_0_1
  | 2, _ => exact p_0_2
theorem p_2_0 : epochsAt 2 0 = true := by kernel_rfl
theorem p_2_1 : epochsAt 2 1 = true := by kernel_rfl
theorem p_2_2 : epochsAt 2 2 = true := by kernel_rfl
theorem epochs_2 (h : Nat) (hh : h < 3) : epochsAt 2 h = true := by
  match h, hh with
  | 0, _ => exact p_2_0
  | 1, _ => exact p_2_1
  | 2, _ => exact p_2_2
theorem p_4_0 : epochsAt 4 0 = true := by kernel_rfl
theorem p_4_1 : epochsAt 4 1 = true := by kernel_rfl
theorem p_4_2 : epochsAt 4 2 = true := by kernel_rfl
theorem epochs_4 (h : Nat) (hh : h < 3) : epochsAt 4 h = true := by
  match h, hh with
  | 0, _ => exact p_4_0
  | 1, _ => exact p_4_1
  | 2, _ => exact p_4_2
theorem p_6_0 : epochsAt 6 0 = true := by kernel_rfl
theorem p_6_1 : epochsAt 6 1 = true := by kernel_rfl
theorem p_6_2 : epochsAt 6 2 = true := by kernel_rfl
theorem epochs_6 (h : Nat) (hh : h < 3) : epochsAt 6 h = true := by
  match h, hh with
  | 0, _ => exact p_6_0
  | 1, _ => exact p_6_1
  | 2, _ => exact p_6_2
theorem p_8_0 : epochsAt 8 0 = true := by kernel_rfl
theorem p_8_1 : epochsAt 8 1 = true := by kernel_rfl
theorem p_8_2 : epochsAt 8 2 = true := by kernel_rfl
theorem epochs_8 (h : Nat) (hh : h < 3) : epochsAt 8 h = true := by
  match h, hh with
  | 0, _ => exact p_8_0
  | 1, _ => exact p_8_1
  | 2, _ => exact p_8_2
theorem p_10_0 : epochsAt 10 0 = true := by kernel_rfl
theorem p_10_1 : epochsAt 10 1 = true := by kernel_rfl
theorem p_10_2 : epochsAt 10 2 = true := by kernel_rfl
theorem epochs_10 (h : Nat) (hh : h < 3) : epochsAt 10 h = true := by
  match h, hh with
  | 0, _ => exact p_10_0
  | 1, _ => exact p_10_1
  | 2, _ => exact p_10_2
theorem p_12_0 : epochsAt 12 0 = true := by kernel_rfl
theorem p_12_1 : epochsAt 12 1 = true := by kernel_rfl
theorem p_12_2 : epochsAt 12 2 = true := by kernel_rfl
theorem epochs_12 (h : Nat) (hh : h < 3) : epochsAt 12 h = true := by
  match h, hh with
  | 0, _ => exact p_12_0
  | 1, _ => exact p_12_1
  | 2, _ => exact p_12_2
theorem p_14_0 : epochsAt 14 0 = true := by kernel_rfl
theorem p_14_1 : epochsAt 14 1 = true := by kernel_rfl
theorem p_14_2 : epochsAt 14 2 = true := by kernel_rfl
theorem epochs_14 (h : Nat) (hh : h < 3) : epochsAt 14 h = true := by
  match h, hh with
  | 0, _ => exact p_14_0
  | 1, _ => exact p_14_1
  | 2, _ => exact p_14_2
end Am
end Go.Proofs.YthdkpflfkjdhmaaDoor
