/-
  MemberKnown, walked and answered.
-/
import Derived.Test.YtakcidegacikoaaMemK
namespace Go.Proofs.Ytakcidegacikoaa
open Go.RowKit Go.Proofs.Ytakcidegacikoaa.PMemberTells

theorem memberKnown_walk (w : World) : Calls Try.prog 3 #[] w fun e w' => e = .returned (.bool true) ∧ Below w.heap.size w w' :=
  chartularylaw11_MemberKnown.calls 9 true w rfl
end Go.Proofs.Ytakcidegacikoaa
