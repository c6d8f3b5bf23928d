/-
  BallotOrder, answered.
-/
import Derived.Test.YtheafmjdncmpoaaBalO
import Derived.Test.YtheafmjdncmpoaaBalF
namespace Go.Proofs.Ytheafmjdncmpoaa
set_option linter.unusedSimpArgs false
set_option linter.unusedVariables false
open Go.RowKit Go.Proofs.Ytheafmjdncmpoaa.PBallotTells Go.Proofs.YtheafmjdncmpoaaW.PrintWords Go.Proofs.YtheafmjdncmpoaaW.PrintMore

theorem order_j0 (k : Nat) (a0 a1 : Int) : chartularylaw19_BallotOrder.j0 (k + 4) true false a0 a1 = some true := by
  simp only [chartularylaw19_BallotOrder.j0, check_eq, chartularylaw19_of.f, less_eq, Option.bind_some]
  unfold chkB
  cases h : okB a0 a1
  · simp
  · have : lessB 0 0 a0 a1 = true := by rw [lessB_iff]; rw [okB_iff] at h; omega
    simp [this]
theorem ballotOrder_plain (a0 a1 b0 b1 c0 c1 : Int) : chartularylaw19_BallotOrder.f 20 a0 a1 b0 b1 c0 c1 = some true := by
  have j := order_j0 16 a0 a1
  unfold chartularylaw19_BallotOrder.f chartularylaw19_BallotKnown.f
  simp only [less_eq _ _ _ _ 17, Option.bind_some]
  cases h1 : lessB a0 a1 b0 b1 <;> cases h2 : lessB b0 b1 a0 a1
  · have e : a0 = b0 ∧ a1 = b1 := by rw [lessB_not] at h1 h2; omega
    simp [e.1, e.2] at j ⊢
    exact j
  · have ne : ¬ (a0 = b0 ∧ a1 = b1) := by rw [lessB_iff] at h2; omega
    simp [ne, j]
  · have ne : ¬ (a0 = b0 ∧ a1 = b1) := by rw [lessB_iff] at h1; omega
    cases h3 : lessB b0 b1 c0 c1
    · simp [ne, j]
    · have h4 : lessB a0 a1 c0 c1 = true := by rw [lessB_iff] at h1 h3 ⊢; omega
      simp [ne, h4, j]
  · rw [lessB_iff] at h1 h2; omega
theorem ballotOrder_walk (a0 a1 b0 b1 c0 c1 : Int) (w : World) (_ : (Lit.int .i64 a0).wf = true) (_ : (Lit.int .i64 a1).wf = true) (_ : (Lit.int .i64 b0).wf = true) (_ : (Lit.int .i64 b1).wf = true) (_ : (Lit.int .i64 c0).wf = true) (_ : (Lit.int .i64 c1).wf = true) :
    Calls Try.prog 6 #[.agg #[.int .i64 a0, .int .i64 a1], .agg #[.int .i64 b0, .int .i64 b1], .agg #[.int .i64 c0, .int .i64 c1]] w fun e w' => e = .returned (.bool true) ∧ Below w.heap.size w w' :=
  chartularylaw19_BallotOrder.calls 20 _ _ _ _ _ _ true w (ballotOrder_plain _ _ _ _ _ _)
end Go.Proofs.Ytheafmjdncmpoaa
