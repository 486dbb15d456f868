/-
  THE CASES, named: the machine run where what is left of each number is known.
  Conditions: none.
-/
import Derived.Test.YthdkpflfkjdhmaaDoorFns
import Derived.Test.YthdkpflfkjdhmaaDoorAm14
import Derived.KernelRfl
set_option maxRecDepth 1000000
namespace Go.Proofs.YthdkpflfkjdhmaaDoor
namespace Am
def isTrue : Option (V × HT) → Bool
  | some (.b true, _) => true
  | _ => false
noncomputable def findsAt (e h n : Int) : Bool := isTrue (callT F 300 3 [.z (.band 1 e), .z (.band 7 h), .z (.band 15 n)] HT.nil)
noncomputable def epochsAt (n h : Int) : Bool := isTrue (callT F 300 4 [.z (.band 15 n), .z (.brem 255 3 h)] HT.nil)
end Am
end Go.Proofs.YthdkpflfkjdhmaaDoor
