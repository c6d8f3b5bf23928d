/-
  BallotMax, answered.
-/
import Derived.Test.YtheafmjdncmpoaaBalM
import Derived.Test.YtheafmjdncmpoaaBalF
import Derived.Test.YtheafmjdncmpoaaBalS
namespace Go.Proofs.Ytheafmjdncmpoaa
set_option linter.unusedSimpArgs false
set_option linter.unusedVariables false
open Go.RowKit Go.Proofs.Ytheafmjdncmpoaa.PBallotTells Go.Proofs.YtheafmjdncmpoaaW.PrintWords Go.Proofs.YtheafmjdncmpoaaW.PrintMore

theorem max_l0 (l : List S23) (hs : l.length ≤ 60) (m : S23) (ht : ∀ x ∈ l, lessB m.f0 m.f1 x.f0 x.f1 = false) : ∀ (n i k : Nat) (b : Bool), n = l.length - i → i ≤ l.length → n + 5 ≤ k → (b = true ∨ ∃ j, i ≤ j ∧ j < l.length ∧ l.getD j z23 = m) →
    chartularylaw19_BallotMax.l0 k l true b (i : Int) m.f0 m.f1 = some true := by
  intro n
  induction n with
  | zero =>
    intro i k b hn hi hk hb
    obtain ⟨k, rfl⟩ : ∃ k', k = k' + 1 := ⟨k - 1, by omega⟩
    unfold chartularylaw19_BallotMax.l0
    rw [if_neg (by omega)]
    rcases hb with rfl | ⟨j, h1, h2, _⟩
    · rfl
    · omega
  | succ n ih =>
    intro i k b hn hi hk hb
    obtain ⟨k, rfl⟩ : ∃ k', k = k' + 3 + 1 := ⟨k - 4, by omega⟩
    have hin : l.getD i z23 ∈ l := by
      rw [List.getD_eq_getElem?_getD, List.getElem?_eq_getElem (show i < l.length by omega)]; exact List.getElem_mem _
    unfold chartularylaw19_BallotMax.l0
    rw [if_pos (by omega), if_pos (by omega), rdN, less_eq, ht _ hin, Option.bind_some, if_neg (by simp), wrapN i (by omega)]
    cases b with
    | true =>
      rw [if_pos rfl]
      exact ih (i + 1) (k + 3) true (by omega) (by omega) (by omega) (.inl rfl)
    | false =>
      rw [if_neg (by simp)]
      refine ih (i + 1) (k + 3) _ (by omega) (by omega) (by omega) ?_
      rcases hb with hb | ⟨j, h1, h2, h3⟩
      · simp at hb
      · by_cases hji : j = i
        · subst hji; left; rw [h3]; simp
        · exact .inr ⟨j, by omega, h2, h3⟩
theorem ballotMax_plain (k : Nat) (hk : 200 ≤ k) (l : List S23) : chartularylaw19_BallotMax.f k l = some true := by
  obtain ⟨k, rfl⟩ : ∃ k', k = k' + 4 := ⟨k - 4, by omega⟩
  unfold chartularylaw19_BallotMax.f chartularylaw19_of.f
  rw [awake_eq, Option.bind_some]
  by_cases h1 : (l.length : Int) > 60
  · rw [if_pos h1]
  rw [if_neg h1, max_eq l (by omega) _ (by omega), Option.bind_some, Option.bind_some]
  refine max_l0 l (by omega) (best z23 l) (best_top l z23).2 l.length 0 _ _ (by omega) (by omega) (by omega) ?_
  rcases best_in l z23 with h | h
  · left; rw [h]; rfl
  · right
    obtain ⟨j, hj, e⟩ := List.getElem_of_mem h
    exact ⟨j, by omega, hj, by rw [List.getD_eq_getElem?_getD, List.getElem?_eq_getElem hj]; exact e⟩
theorem ballotMax_walk (a : Option Addr) (len cap : Nat) (xs : List S23) (w : World) (h0 : IsBal w a len cap xs) :
    Calls Try.prog 7 #[.slice a len cap] w fun e w' => e = .returned (.bool true) ∧ Below w.heap.size w w' := by
  obtain ⟨hc, hl, rfl⟩ := h0
  exact chartularylaw19_BallotMax.calls 200 a cap xs true w hc hl (ballotMax_plain 200 (Nat.le_refl _) xs)
end Go.Proofs.Ytheafmjdncmpoaa
