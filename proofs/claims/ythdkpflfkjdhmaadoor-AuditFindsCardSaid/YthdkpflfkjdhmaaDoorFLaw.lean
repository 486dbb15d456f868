/-
  THE LAW, WALKED: whatever the numbers, the call returns true, and nothing that was there is another.
  Conditions: none.
-/
import Derived.Test.YthdkpflfkjdhmaaDoorFc0
import Derived.Test.YthdkpflfkjdhmaaDoorFc1
import Derived.Test.YthdkpflfkjdhmaaDoorFc2
import Derived.Test.YthdkpflfkjdhmaaDoorFc3
import Derived.Test.YthdkpflfkjdhmaaDoorFc4
import Derived.Test.YthdkpflfkjdhmaaDoorFc5
import Derived.Test.YthdkpflfkjdhmaaDoorFc6
import Derived.Test.YthdkpflfkjdhmaaDoorFc7
import Derived.Test.YthdkpflfkjdhmaaDoorJoin
namespace Go.Proofs.YthdkpflfkjdhmaaDoor
namespace Am
open Go.RowKit
theorem finds_all (e h n : Nat) (he : e < 2) (hh : h < 8) (hn : n < 16) : findsAt e h n = true := by
  rcases (show n = 0 ∨ n = 1 ∨ n = 2 ∨ n = 3 ∨ n = 4 ∨ n = 5 ∨ n = 6 ∨ n = 7 ∨ n = 8 ∨ n = 9 ∨ n = 10 ∨ n = 11 ∨ n = 12 ∨ n = 13 ∨ n = 14 ∨ n = 15 by omega) with rfl | rfl | rfl | rfl | rfl | rfl | rfl | rfl | rfl | rfl | rfl | rfl | rfl | rfl | rfl | rfl
  · exact finds_0 e h he hh
  · exact finds_1 e h he hh
  · exact finds_2 e h he hh
  · exact finds_3 e h he hh
  · exact finds_4 e h he hh
  · exact finds_5 e h he hh
  · exact finds_6 e h he hh
  · exact finds_7 e h he hh
  · exact finds_8 e h he hh
  · exact finds_9 e h he hh
  · exact finds_10 e h he hh
  · exact finds_11 e h he hh
  · exact finds_12 e h he hh
  · exact finds_13 e h he hh
  · exact finds_14 e h he hh
  · exact finds_15 e h he hh
theorem finds_walk (a b c : Int) (w : World) : Calls Tryd.prog 3 #[.int .i64 a, .int .i64 b, .int .i64 c] w fun e w' => e = .returned (.bool true) ∧ Below w.heap.size w w' := by
  obtain ⟨e, e1, e2⟩ := band_ex 1 (by decide) (by decide) a
  obtain ⟨h, h1, h2⟩ := band_ex 7 (by decide) (by decide) b
  obtain ⟨n, n1, n2⟩ := band_ex 15 (by decide) (by decide) c
  exact calls_true (us := [.int .i64 a, .int .i64 b, .int .i64 c]) (finds_all e h n (by omega) (by omega) (by omega)) (.cons (.z _ _ e2) (.cons (.z _ _ h2) (.cons (.z _ _ n2) .nil)))
end Am
end Go.Proofs.YthdkpflfkjdhmaaDoor
