/-
  MemberOrder, the plain law. No program in sight.
-/
import Derived.Test.YtakcidegacikoaaMemP
import Derived.Test.YtakcidegacikoaaMemO
namespace Go.Proofs.Ytakcidegacikoaa
set_option linter.unusedSimpArgs false
open Go.RowKit Go.Proofs.Ytakcidegacikoaa.PMemberTells

theorem memberOrder_plain (a0 a1 a2 b0 b1 b2 c0 c1 c2 : Int) : chartularylaw11_MemberOrder.f 20 a0 a1 a2 b0 b1 b2 c0 c1 c2 = some true := by
  have o1 := over_iff a0 a1 a2 a0 b1 b2
  have o2 := over_iff a0 b1 b2 a0 a1 a2
  have o3 := over_iff a0 b1 b2 a0 c1 c2
  have o4 := over_iff a0 a1 a2 a0 c1 c2
  have q1 := over_eq a0 a1 a2 a0 b1 b2 16
  have q2 := over_eq a0 b1 b2 a0 a1 a2 16
  have q3 := over_eq a0 b1 b2 a0 c1 c2 15
  have q4 := over_eq a0 a1 a2 a0 c1 c2 15
  unfold chartularylaw11_MemberOrder.f chartularylaw11_awake.f
  simp only [check_eq, Option.bind_some, chartularylaw11_MemberOrder.j0, chkM, q1, q2]
  cases ha : okM a0 a1 a2
  · rw [ha] at o1
    have : overM a0 a1 a2 a0 b1 b2 = false := by
      rw [Bool.eq_false_iff]; intro h; have := o1.1 h; simp at this
    simp [this]
  · cases hb : okM a0 b1 b2
    · simp
    · cases hc : okM a0 c1 c2
      · simp
      · rw [ha, hb] at o1 o2; rw [hb, hc] at o3; rw [ha, hc] at o4
        simp only [true_and, and_true] at o1 o2 o3 o4
        cases h1 : overM a0 a1 a2 a0 b1 b2 <;> cases h2 : overM a0 b1 b2 a0 a1 a2 <;> rw [h1] at o1 <;> rw [h2] at o2 <;> simp at o1 o2 <;> simp [chartularylaw11_MemberOrder.j1, q3, q4]
        · omega
        · omega
        · rw [if_neg (by omega)]
          cases h3 : overM a0 b1 b2 a0 c1 c2 <;> rw [h3] at o3 <;> simp at o3 ⊢
          exact o4.2 (by omega)
        · omega
theorem memberOrder_walk (a0 a1 a2 b0 b1 b2 c0 c1 c2 : Int) (w : World) (_ : (Lit.int .i64 a0).wf = true) (_ : (Lit.int .i64 a1).wf = true) (_ : (Lit.int .i64 a2).wf = true)
    (_ : (Lit.int .i64 b0).wf = true) (_ : (Lit.int .i64 b1).wf = true) (_ : (Lit.int .i64 b2).wf = true) (_ : (Lit.int .i64 c0).wf = true) (_ : (Lit.int .i64 c1).wf = true) (_ : (Lit.int .i64 c2).wf = true) :
    Calls Try.prog 5 #[.agg #[.int .i64 a0, .int .i64 a1, .int .i64 a2], .agg #[.int .i64 b0, .int .i64 b1, .int .i64 b2], .agg #[.int .i64 c0, .int .i64 c1, .int .i64 c2]] w fun e w' => e = .returned (.bool true) ∧ Below w.heap.size w w' :=
  chartularylaw11_MemberOrder.calls 20 _ _ _ _ _ _ _ _ _ true w (memberOrder_plain _ _ _ _ _ _ _ _ _)
end Go.Proofs.Ytakcidegacikoaa
