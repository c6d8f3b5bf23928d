/-
  Which of two words is over the other, plainly.
-/
import Derived.Test.YtakcidegacikoaaMMemberTells3
namespace Go.Proofs.Ytakcidegacikoaa
set_option linter.unusedSimpArgs false
open Go.Proofs.Ytakcidegacikoaa.PMemberTells

/-- is one word over the other? -/
def overM (a0 a1 a2 b0 b1 b2 : Int) : Bool := bothM a0 a1 a2 b0 b1 b2 && decide (0 < ordI a1 a2 b1 b2)
theorem over_eq (a0 a1 a2 b0 b1 b2 : Int) (k : Nat) : member_Over.f (k + 3) a0 a1 a2 b0 b1 b2 = some (overM a0 a1 a2 b0 b1 b2) := by
  unfold member_Over.f overM
  rw [both_eq]
  simp only [Option.bind_some]
  cases bothM a0 a1 a2 b0 b1 b2
  · rfl
  · rw [order_eq]
    simp
theorem over_iff (a0 a1 a2 b0 b1 b2 : Int) : overM a0 a1 a2 b0 b1 b2 = true ↔ (okM a0 a1 a2 = true ∧ okM b0 b1 b2 = true ∧ a0 = b0) ∧ (b2 < a2 ∨ a2 = b2 ∧ b1 < a1) := by
  unfold overM bothM
  rw [← ordI_gt]
  simp [and_assoc]
end Go.Proofs.Ytakcidegacikoaa
