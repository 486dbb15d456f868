/-
  CASES OF AuditEpochs, by the kernel.
  Conditions: none.
-/
import Derived.Test.YthdkpflfkjdhmaaDoorCase
import Derived.KernelRfl
set_option maxRecDepth 1000000
namespace Go.Proofs.YthdkpflfkjdhmaaDoor
namespace Am
theorem p_1_0 : epochsAt 1 0 = true := by kernel_rfl
theorem p_1_1 : epochsAt 1 1 = true := by kernel_rfl
theorem p_1_2 : epochsAt 1 2 = true := by kernel_rfl
theorem epochs_1 (h : Nat) (hh : h < 3) : epochsAt 1 h = true := by
  match h, hh with
  | 0, _ => exact p_1_0
  | 1, _ => exact p_1_1
  | 2, _ => exact p_1_2
theorem p_3_0 : epochsAt 3 0 = true := by kernel_rfl
theorem p_3_1 : epochsAt 3 1 = true := by kernel_rfl
theorem p_3_2 : epochsAt 3 2 = true := by kernel_rfl
theorem epochs_3 (h : Nat) (hh : h < 3) : epochsAt 3 h = true := by
  match h, hh with
  | 0, _ => exact p_3_0
  | 1, _ => exact p_3_1
  | 2, _ => exact p_3_2
theorem p_5_0 : epochsAt 5 0 = true := by kernel_rfl
theorem p_5_1 : epochsAt 5 1 = true := by kernel_rfl
theorem p_5_2 : epochsAt 5 2 = true := by kernel_rfl
theorem epochs_5 (h : Nat) (hh : h < 3) : epochsAt 5 h = true := by
  match h, hh with
  | 0, _ => exact p_5_0
  | 1, _ => exact p_5_1
  | 2, _ => exact p_5_2
theorem p_7_0 : epochsAt 7 0 = true := by kernel_rfl
theorem p_7_1 : epochsAt 7 1 = true := by kernel_rfl
theorem p_7_2 : epochsAt 7 2 = true := by kernel_rfl
theorem epochs_7 (h : Nat) (hh : h < 3) : epochsAt 7 h = true := by
  match h, hh with
  | 0, _ => exact p_7_0
  | 1, _ => exact p_7_1
  | 2, _ => exact p_7_2
theorem p_9_0 : epochsAt 9 0 = true := by kernel_rfl
theorem p_9_1 : epochsAt 9 1 = true := by kernel_rfl
theorem p_9_2 : epochsAt 9 2 = true := by kernel_rfl
theorem epochs_9 (h : Nat) (hh : h < 3) : epochsAt 9 h = true := by
  match h, hh with
  | 0, _ => exact p_9_0
  | 1, _ => exact p_9_1
  | 2, _ => exact p_9_2
theorem p_11_0 : epochsAt 11 0 = true := by kernel_rfl
theorem p_11_1 : epochsAt 11 1 = true := by kernel_rfl
theorem p_11_2 : epochsAt 11 2 = true := by kernel_rfl
theorem epochs_11 (h : Nat) (hh : h < 3) : epochsAt 11 h = true := by
  match h, hh with
  | 0, _ => exact p_11_0
  | 1, _ => exact p_11_1
  | 2, _ => exact p_11_2
theorem p_13_0 : epochsAt 13 0 = true := by kernel_rfl
theorem p_13_1 : epochsAt 13 1 = true := by kernel_rfl
theorem p_13_2 : epochsAt 13 2 = true := by kernel_rfl
theorem epochs_13 (h : Nat) (hh : h < 3) : epochsAt 13 h = true := by
  match h, hh with
  | 0, _ => exact p_13_0
  | 1, _ => exact p_13_1
  | 2, _ => exact p_13_2
theorem p_15_0 : epochsAt 15 0 = true := by kernel_rfl
theorem p_15_1 : epochsAt 15 1 = true := by kernel_rfl
theorem p_15_2 : epochsAt 15 2 = true := by kernel_rfl
theorem epochs_15 (h : Nat) (hh : h < 3) : epochsAt 15 h = true := by
  match h, hh with
  | 0, _ => exact p_15_0
  | 1, _ => exact p_15_1
  | 2, _ => exact p_15_2
end Am
end Go.Proofs.YthdkpflfkjdhmaaDoor
