/-
  BallotTells, answered.
-/
import Derived.Test.YtheafmjdncmpoaaBalT
import Derived.Test.YtheafmjdncmpoaaBalF
import Derived.Test.YtheafmjdncmpoaaBalS
namespace Go.Proofs.Ytheafmjdncmpoaa
set_option linter.unusedSimpArgs false
set_option linter.unusedVariables false
open Go.RowKit Go.Proofs.Ytheafmjdncmpoaa.PBallotTells Go.Proofs.YtheafmjdncmpoaaW.PrintWords Go.Proofs.YtheafmjdncmpoaaW.PrintMore

theorem ref_node_eq (a : Int) : chartularyref19_node.f a = some (decide (1 ≤ a ∧ a ≤ 64)) := by
  unfold chartularyref19_node.f
  by_cases h : a ≥ 1
  · rw [if_pos h]; congr 1; rw [decide_eq_decide]; omega
  · rw [if_neg h, decide_eq_false (by omega)]
theorem ref_check_eq (n d : Int) : chartularyref19_Check.f n d = some (chkB n d) := by
  unfold chartularyref19_Check.f chkB okB
  rw [ref_node_eq, Option.bind_some]
  by_cases h1 : n < 1
  · rw [if_pos h1, if_neg (by rw [decide_eq_true_iff]; omega)]
  by_cases h2 : n > 2147483647
  · rw [if_neg h1, if_pos h2, if_neg (by rw [decide_eq_true_iff]; omega)]
  rw [if_neg h1, if_neg h2]
  by_cases h3 : 1 ≤ d ∧ d ≤ 64
  · rw [if_pos (by rw [decide_eq_true_iff]; exact h3), if_pos (by rw [decide_eq_true_iff]; omega)]
  · rw [if_neg (by rw [decide_eq_true_iff]; exact h3), if_neg (by rw [decide_eq_true_iff]; omega)]
theorem ref_less_eq (a0 a1 b0 b1 : Int) : chartularyref19_Less.f a0 a1 b0 b1 = some (lessB a0 a1 b0 b1) := by
  unfold chartularyref19_Less.f lessB
  by_cases h1 : a0 < b0
  · rw [if_pos h1, decide_eq_true (by omega)]
  · rw [if_neg h1]
    by_cases h2 : a0 = b0
    · rw [if_pos h2]; congr 1; rw [decide_eq_decide]; omega
    · rw [if_neg h2, decide_eq_false (by omega)]
theorem ref_next_eq (n d m : Int) (k : Nat) : chartularyref19_Next.f (k + 1) n d m = some (nextB n d m) := by
  have bad : chartularyref19_Next.j0 (k + 1) m true n d = some (0, 0, 2) := by simp [chartularyref19_Next.j0]
  have good : (n = 0 ∧ d = 0) ∨ okB n d = true → 1 ≤ m ∧ m ≤ 64 → chartularyref19_Next.j0 (k + 1) m false n d = some (nextB n d m) := by
    intro h hm
    have hn : 1 ≤ mx n 1 ∧ mx n 1 ≤ 2147483647 := by
      unfold mx
      rcases h with ⟨rfl, rfl⟩ | h
      · simp
      · rw [okB_iff] at h; split <;> omega
    have w1 : wrap64 (mx n 1 + 1) = mx n 1 + 1 := by unfold wrap64; omega
    unfold nextB
    rw [if_neg (by
      intro hc
      rcases hc with ⟨h1, h2⟩ | h1 | h1
      · rcases h with h | h
        · exact h1 h
        · rw [h] at h2; exact absurd h2 (by simp)
      · omega
      · omega)]
    simp only [chartularyref19_Next.j0, ref_less_eq, Option.bind_some]
    rw [if_neg (by simp), w1]
    cases hl : lessB n d (mx n 1) m
    · by_cases h5 : mx n 1 = 2147483647
      · simp [h5]
      · have : ¬ mx n 1 + 1 > 2147483647 := by omega
        simp [h5, this]
    · have : ¬ mx n 1 > 2147483647 := by omega
      simp [this]
  unfold chartularyref19_Next.f
  rw [ref_node_eq, Option.bind_some]
  by_cases hm : 1 ≤ m ∧ m ≤ 64
  · rw [decide_eq_true hm, if_pos rfl, ref_check_eq, Option.bind_some]
    unfold chkB
    cases hc : okB n d
    · rw [if_neg (by simp)]
      by_cases hz : n = 0 ∧ d = 0
      · have e : (!(n == 0) || (!(d == 0))) = false := by simp [hz.1, hz.2]
        rw [e]; exact good (.inl hz) hm
      · have e : (!(n == 0) || (!(d == 0))) = true := by
          rw [Bool.or_eq_true, Bool.not_eq_true', Bool.not_eq_true', beq_eq_false_iff_ne, beq_eq_false_iff_ne]
          by_cases h : n = 0
          · exact .inr (fun h2 => hz ⟨h, h2⟩)
          · exact .inl h
        rw [e, bad]; unfold nextB; rw [if_pos (Or.inl ⟨hz, hc⟩)]
    · rw [if_pos (by simp)]; exact good (.inr hc) hm
  · rw [decide_eq_false hm, if_neg (by simp), bad]; unfold nextB; rw [if_pos (by omega)]
theorem ref_max_l0 (l : List S23) (hs : l.length < 900) : ∀ (n i k : Nat) (v : S23), n = l.length - i → i ≤ l.length → n + 5 ≤ k →
    chartularyref19_Max.l0 k l (i : Int) v.f0 v.f1 = some ((best v (l.drop i)).f0, (best v (l.drop i)).f1) := by
  intro n
  induction n with
  | zero =>
    intro i k v hn hi hk
    obtain ⟨k, rfl⟩ : ∃ k', k = k' + 1 := ⟨k - 1, by omega⟩
    rw [List.drop_of_length_le (by omega)]
    unfold chartularyref19_Max.l0
    rw [if_neg (by omega)]
    rfl
  | succ n ih =>
    intro i k v hn hi hk
    obtain ⟨k, rfl⟩ : ∃ k', k = k' + 1 := ⟨k - 1, by omega⟩
    rw [drop_at (by omega)]
    unfold chartularyref19_Max.l0
    rw [if_pos (by omega), if_pos (by omega), rdN, ref_less_eq, Option.bind_some, wrapN i (by omega)]
    unfold best
    cases h : lessB v.f0 v.f1 (l.getD i z23).f0 (l.getD i z23).f1
    · rw [if_neg (by simp)]; exact ih (i + 1) k v (by omega) (by omega) (by omega)
    · rw [if_pos rfl]; exact ih (i + 1) k (l.getD i z23) (by omega) (by omega) (by omega)
theorem ref_max_eq (l : List S23) (hs : l.length ≤ 60) (k : Nat) (hk : 100 ≤ k) : chartularyref19_Max.f k l = some ((best z23 l).f0, (best z23 l).f1) := by
  unfold chartularyref19_Max.f
  have := ref_max_l0 l (by omega) l.length 0 k z23 (by omega) (by omega) (by omega)
  rw [List.drop_zero] at this
  exact this
theorem ballotTells_plain (k : Nat) (hk : 200 ≤ k) (a0 a1 b0 b1 m : Int) (l : List S23) : chartularylaw19_BallotTells.f (k + 4) a0 a1 b0 b1 m l = some true := by
  unfold chartularylaw19_BallotTells.f
  by_cases h1 : (l.length : Int) > 60
  · rw [if_pos h1, awake_eq]; rfl
  · rw [if_neg h1, next_eq, ref_next_eq, check_eq, ref_check_eq, less_eq, ref_less_eq, max_eq l (by omega) _ (by omega), ref_max_eq l (by omega) _ (by omega), awake_eq]
    simp
theorem ballotTells_walk (a0 a1 b0 b1 m : Int) (a : Option Addr) (len cap : Nat) (xs : List S23) (w : World) (_ : (Lit.int .i64 a0).wf = true) (_ : (Lit.int .i64 a1).wf = true) (_ : (Lit.int .i64 b0).wf = true) (_ : (Lit.int .i64 b1).wf = true) (_ : (Lit.int .i64 m).wf = true) (h0 : IsBal w a len cap xs) :
    Calls Try.prog 4 #[.agg #[.int .i64 a0, .int .i64 a1], .agg #[.int .i64 b0, .int .i64 b1], .int .i64 m, .slice a len cap] w fun e w' => e = .returned (.bool true) ∧ Below w.heap.size w w' := by
  obtain ⟨hc, hl, rfl⟩ := h0
  exact chartularylaw19_BallotTells.calls 204 _ _ _ _ _ a cap xs true w rfl hc hl (ballotTells_plain 200 (Nat.le_refl _) _ _ _ _ _ _)
end Go.Proofs.Ytheafmjdncmpoaa
