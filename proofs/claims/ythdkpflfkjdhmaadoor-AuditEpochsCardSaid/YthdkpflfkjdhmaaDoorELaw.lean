/-
  THE LAW, WALKED: whatever the numbers, the call returns true, and nothing that was there is another.
  Conditions: none.
-/
import Derived.Test.YthdkpflfkjdhmaaDoorEc0
import Derived.Test.YthdkpflfkjdhmaaDoorEc1
import Derived.Test.YthdkpflfkjdhmaaDoorJoin
namespace Go.Proofs.YthdkpflfkjdhmaaDoor
namespace Am
open Go.RowKit
theorem epochs_all (n h : Nat) (hn : n < 16) (hh : h < 3) : epochsAt n h = true := by
  rcases (show n = 0 ∨ n = 1 ∨ n = 2 ∨ n = 3 ∨ n = 4 ∨ n = 5 ∨ n = 6 ∨ n = 7 ∨ n = 8 ∨ n = 9 ∨ n = 10 ∨ n = 11 ∨ n = 12 ∨ n = 13 ∨ n = 14 ∨ n = 15 by omega) with rfl | rfl | rfl | rfl | rfl | rfl | rfl | rfl | rfl | rfl | rfl | rfl | rfl | rfl | rfl | rfl
  · exact epochs_0 h hh
  · exact epochs_1 h hh
  · exact epochs_2 h hh
  · exact epochs_3 h hh
  · exact epochs_4 h hh
  · exact epochs_5 h hh
  · exact epochs_6 h hh
  · exact epochs_7 h hh
  · exact epochs_8 h hh
  · exact epochs_9 h hh
  · exact epochs_10 h hh
  · exact epochs_11 h hh
  · exact epochs_12 h hh
  · exact epochs_13 h hh
  · exact epochs_14 h hh
  · exact epochs_15 h hh
theorem epochs_walk (a b : Int) (w : World) : Calls Tryd.prog 4 #[.int .i64 a, .int .i64 b] w fun e w' => e = .returned (.bool true) ∧ Below w.heap.size w w' := by
  obtain ⟨n, n1, n2⟩ := band_ex 15 (by decide) (by decide) a
  obtain ⟨h, h1, h2⟩ := brem_ex b
  exact calls_true (us := [.int .i64 a, .int .i64 b]) (epochs_all n h (by omega) h1) (.cons (.z _ _ n2) (.cons (.z _ _ h2) .nil))
end Am
end Go.Proofs.YthdkpflfkjdhmaaDoor
