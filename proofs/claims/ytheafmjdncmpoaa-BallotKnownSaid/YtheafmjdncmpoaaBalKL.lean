/-
  BallotKnown, answered.
-/
import Derived.Test.YtheafmjdncmpoaaBalK
namespace Go.Proofs.Ytheafmjdncmpoaa
set_option linter.unusedSimpArgs false
set_option linter.unusedVariables false
open Go.RowKit Go.Proofs.Ytheafmjdncmpoaa.PBallotTells Go.Proofs.YtheafmjdncmpoaaW.PrintWords Go.Proofs.YtheafmjdncmpoaaW.PrintMore

theorem ballotKnown_walk (w : World) : Calls Try.prog 5 #[] w fun e w' => e = .returned (.bool true) ∧ Below w.heap.size w w' :=
  chartularylaw19_BallotKnown.calls 9 true w rfl
end Go.Proofs.Ytheafmjdncmpoaa
