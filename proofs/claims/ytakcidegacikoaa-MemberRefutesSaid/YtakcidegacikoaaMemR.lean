/-
  MemberRefutes, the plain law. No program in sight.
-/
import Derived.Test.YtakcidegacikoaaMemP
import Derived.Test.YtakcidegacikoaaMemF
namespace Go.Proofs.Ytakcidegacikoaa
set_option linter.unusedSimpArgs false
open Go.RowKit Go.Proofs.Ytakcidegacikoaa.PMemberTells

theorem memberRefutes_plain (a0 a1 a2 b0 b1 b2 : Int) : chartularylaw11_MemberRefutes.f 20 a0 a1 a2 b0 b1 b2 = some true := by
  unfold chartularylaw11_MemberRefutes.f chartularylaw11_awake.f member_Refute.f
  simp only [over_eq _ _ _ _ _ _ 17, Option.bind_some]
  by_cases h0 : bothM a0 1 a2 a0 b1 b2 = false
  · have H : refI a0 1 a2 a0 b1 b2 = (0, 0, 0, false, 2) := by unfold refI; rw [if_pos (Or.inl h0)]
    simp [H]
  have N : ¬ (bothM a0 1 a2 a0 b1 b2 = false ∨ (1 : Int) ≠ 1) := by simp [h0]
  by_cases h1 : b1 ≠ 1 ∧ a2 ≤ b2
  · by_cases h2 : b2 = 2147483647
    · have H : refI a0 1 a2 a0 b1 b2 = (0, 0, 0, false, 5) := by unfold refI; rw [if_neg N, if_pos h1, if_pos h2]
      simp [H]
    · have H : refI a0 1 a2 a0 b1 b2 = (a0, 1, b2 + 1, true, 0) := by unfold refI; rw [if_neg N, if_pos h1, if_neg h2]
      have p1 : overM a0 1 a2 a0 1 (b2 + 1) = false := by
        rw [Bool.eq_false_iff]; intro h; have := ((over_iff _ _ _ _ _ _).1 h).2; omega
      have p2 : overM a0 b1 b2 a0 1 (b2 + 1) = false := by
        rw [Bool.eq_false_iff]; intro h; have := ((over_iff _ _ _ _ _ _).1 h).2; omega
      have p3 : a2 < b2 + 1 := by omega
      simp [H, p1, p2, p3, h1.1, h1.2]
  · by_cases h2 : b1 = 1 ∧ a2 < b2
    · have H : refI a0 1 a2 a0 b1 b2 = (a0, 1, b2, false, 0) := by unfold refI; rw [if_neg N, if_neg h1, if_pos h2]
      obtain ⟨rfl, h3⟩ := h2
      have p1 : overM a0 1 a2 a0 1 b2 = false := by
        rw [Bool.eq_false_iff]; intro h; have := ((over_iff _ _ _ _ _ _).1 h).2; omega
      have p2 : overM a0 1 b2 a0 1 b2 = false := by
        rw [Bool.eq_false_iff]; intro h; have := ((over_iff _ _ _ _ _ _).1 h).2; omega
      simp [H, p1, p2, h3]
    · have H : refI a0 1 a2 a0 b1 b2 = (a0, 1, a2, false, 0) := by unfold refI; rw [if_neg N, if_neg h1, if_neg h2]
      have p1 : overM a0 1 a2 a0 1 a2 = false := by
        rw [Bool.eq_false_iff]; intro h; have := ((over_iff _ _ _ _ _ _).1 h).2; omega
      have p2 : overM a0 b1 b2 a0 1 a2 = false := by
        rw [Bool.eq_false_iff]; intro h
        have k := (over_iff _ _ _ _ _ _).1 h
        have k1 := (okM_iff _ _ _).1 k.1.1
        omega
      by_cases h3 : b1 = 1
      · subst h3
        simp [H, p1, p2]
      · have : ¬ a2 ≤ b2 := by omega
        simp [H, p1, p2, h3, this]
theorem memberRefutes_walk (a0 a1 a2 b0 b1 b2 : Int) (w : World) (_ : (Lit.int .i64 a0).wf = true) (_ : (Lit.int .i64 a1).wf = true) (_ : (Lit.int .i64 a2).wf = true)
    (_ : (Lit.int .i64 b0).wf = true) (_ : (Lit.int .i64 b1).wf = true) (_ : (Lit.int .i64 b2).wf = true) :
    Calls Try.prog 6 #[.agg #[.int .i64 a0, .int .i64 a1, .int .i64 a2], .agg #[.int .i64 b0, .int .i64 b1, .int .i64 b2]] w fun e w' => e = .returned (.bool true) ∧ Below w.heap.size w w' :=
  chartularylaw11_MemberRefutes.calls 20 _ _ _ _ _ _ true w (memberRefutes_plain _ _ _ _ _ _)
end Go.Proofs.Ytakcidegacikoaa
