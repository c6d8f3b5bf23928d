/-
  BallotNext, answered.
-/
import Derived.Test.YtheafmjdncmpoaaBalNA
import Derived.Test.YtheafmjdncmpoaaBalNB
import Derived.Test.YtheafmjdncmpoaaBalNC
import Derived.Test.YtheafmjdncmpoaaBalF
namespace Go.Proofs.Ytheafmjdncmpoaa
set_option linter.unusedSimpArgs false
set_option linter.unusedVariables false
open Go.RowKit Go.Proofs.Ytheafmjdncmpoaa.PBallotTells Go.Proofs.YtheafmjdncmpoaaW.PrintWords Go.Proofs.YtheafmjdncmpoaaW.PrintMore

theorem pick_in (x : Int) : ∃ t : Int, 0 ≤ t ∧ t < 64 ∧ chartularykit_Pick.f x 64 = some t := by
  have h1 : x.tmod 64 < 64 := Int.tmod_lt_of_pos x (by omega)
  have h2 : -64 < x.tmod 64 := by
    have := Int.tmod_lt_of_pos (-x) (show (0 : Int) < 64 by omega)
    rw [Int.neg_tmod] at this
    omega
  unfold chartularykit_Pick.f
  rw [if_neg (by omega), if_neg (by omega)]
  by_cases h3 : x.tmod 64 < 0
  · rw [if_pos h3]
    exact ⟨_, by unfold wrap64; omega, by unfold wrap64; omega, rfl⟩
  · rw [if_neg h3]
    exact ⟨_, by omega, by omega, rfl⟩
theorem next_good (n d m : Int) (hm : 1 ≤ m ∧ m ≤ 64) : ∀ x y e, nextB n d m = (x, y, e) → (e = 0 → y = m ∧ okB x y = true ∧ lessB n d x y = true ∧ (x > 1 → lessB n d (x - 1) m = false)) ∧
    (e ≠ 0 → x = 0 ∧ y = 0 ∧ ((e = 5 ∧ okB n d = true) ∨ (e = 2 ∧ okB n d = false))) := by
  intro x y e h
  unfold nextB at h
  by_cases h0 : (¬ (n = 0 ∧ d = 0) ∧ okB n d = false) ∨ m < 1 ∨ 64 < m
  · rw [if_pos h0] at h
    simp only [Prod.mk.injEq] at h
    obtain ⟨rfl, rfl, rfl⟩ := h
    refine ⟨fun h => absurd h (by omega), fun _ => ⟨rfl, rfl, .inr ⟨rfl, ?_⟩⟩⟩
    rcases h0 with h0 | h0
    · exact h0.2
    · omega
  · rw [if_neg h0] at h
    have ok : (n = 0 ∧ d = 0) ∨ okB n d = true := by
      by_cases hz : n = 0 ∧ d = 0
      · exact .inl hz
      · right
        cases hc : okB n d
        · exact absurd (Or.inl ⟨hz, hc⟩) h0
        · rfl
    have hn : (n = 0 ∧ d = 0 ∧ mx n 1 = 1) ∨ (1 ≤ n ∧ n ≤ 2147483647 ∧ mx n 1 = n) := by
      unfold mx
      rcases ok with ⟨rfl, rfl⟩ | h
      · left; simp
      · rw [okB_iff] at h; right; split <;> omega
    by_cases h1 : lessB n d (mx n 1) m = true
    · rw [if_pos h1] at h
      simp only [Prod.mk.injEq] at h
      obtain ⟨rfl, rfl, rfl⟩ := h
      refine ⟨fun _ => ⟨rfl, by rw [okB_iff]; omega, h1, fun hx => ?_⟩, fun h => absurd rfl h⟩
      rw [lessB_not]; omega
    · rw [if_neg h1] at h
      rw [Bool.not_eq_true] at h1
      by_cases h2 : mx n 1 = 2147483647
      · rw [if_pos h2] at h
        simp only [Prod.mk.injEq] at h
        obtain ⟨rfl, rfl, rfl⟩ := h
        refine ⟨fun h => absurd h (by omega), fun _ => ⟨rfl, rfl, .inl ⟨rfl, ?_⟩⟩⟩
        rcases ok with hz | hz
        · omega
        · exact hz
      · rw [if_neg h2] at h
        simp only [Prod.mk.injEq] at h
        obtain ⟨rfl, rfl, rfl⟩ := h
        refine ⟨fun _ => ⟨rfl, by rw [okB_iff]; omega, by rw [lessB_iff]; omega, fun hx => ?_⟩, fun h => absurd rfl h⟩
        rw [show mx n 1 + 1 - 1 = mx n 1 by omega]; exact h1
theorem ballotNext_plain (a0 a1 b0 b1 m n : Int) : chartularylaw19_BallotNext.f 20 a0 a1 b0 b1 m n = some true := by
  obtain ⟨p, hp0, hp1, ep⟩ := pick_in m
  obtain ⟨q, hq0, hq1, eq⟩ := pick_in n
  have wp : wrap64 (1 + p) = 1 + p := by unfold wrap64; omega
  have wq : wrap64 (1 + q) = 1 + q := by unfold wrap64; omega
  unfold chartularylaw19_BallotNext.f
  rw [awake_eq 16, ep, eq]
  simp only [Option.bind_some]
  rw [wp, wq, next_eq _ _ _ 16, next_eq _ _ _ 16]
  obtain ⟨⟨x, y, e⟩, hx⟩ : ∃ r, nextB a0 a1 (1 + p) = r := ⟨_, rfl⟩
  obtain ⟨⟨x', y', e'⟩, hx'⟩ : ∃ r, nextB b0 b1 (1 + q) = r := ⟨_, rfl⟩
  obtain ⟨g1, g2⟩ := next_good a0 a1 (1 + p) (by omega) x y e hx
  obtain ⟨g3, _⟩ := next_good b0 b1 (1 + q) (by omega) x' y' e' hx'
  rw [hx, hx']
  simp only [Option.bind_some, check_eq, less_eq _ _ _ _ 17, chartularylaw19_of.f]
  by_cases he : e = 0
  · obtain ⟨rfl, k1, k2, k3⟩ := g1 he
    have last : (if e' = 0 then (if 1 + p = 1 + q then some true else some (!(x == x') || !(1 + p == y'))) else some true) = some true := by
      by_cases h1 : e' = 0
      · rw [if_pos h1]
        by_cases h2 : 1 + p = 1 + q
        · rw [if_pos h2]
        · rw [if_neg h2, (g3 h1).1, beq_eq_false_iff_ne.2 h2]; simp
      · rw [if_neg h1]
    unfold chkB
    rw [if_pos he, if_pos rfl, k1, if_pos rfl, if_pos rfl, k2, if_pos rfl]
    by_cases hgt : x > 1
    · have wx : wrap64 (x - 1) = x - 1 := by rw [okB_iff] at k1; unfold wrap64; omega
      rw [if_pos hgt, wx, k3 hgt, if_neg (by simp), if_pos trivial]
      exact last
    · rw [if_neg hgt, if_pos trivial]
      exact last
  · obtain ⟨rfl, rfl, k⟩ := g2 he
    unfold chkB
    rw [if_neg he]
    rcases k with ⟨rfl, k⟩ | ⟨rfl, k⟩ <;> simp [k]
theorem ballotNext_walk (a0 a1 b0 b1 m n : Int) (w : World) (_ : (Lit.int .i64 a0).wf = true) (_ : (Lit.int .i64 a1).wf = true) (_ : (Lit.int .i64 b0).wf = true) (_ : (Lit.int .i64 b1).wf = true) (_ : (Lit.int .i64 m).wf = true) (_ : (Lit.int .i64 n).wf = true) :
    Calls Try.prog 3 #[.agg #[.int .i64 a0, .int .i64 a1], .agg #[.int .i64 b0, .int .i64 b1], .int .i64 m, .int .i64 n] w fun e w' => e = .returned (.bool true) ∧ Below w.heap.size w w' := by
  have P := ballotNext_plain a0 a1 b0 b1 m n
  obtain ⟨⟨x, y, e⟩, hx⟩ : ∃ r, (∃ p, chartularykit_Pick.f m 64 = some p ∧ nextB a0 a1 (wrap64 (1 + p)) = r) := by
    obtain ⟨p, _, _, ep⟩ := pick_in m
    exact ⟨_, p, ep, rfl⟩
  obtain ⟨p, ep, hx⟩ := hx
  have uniq : ∀ t153 t155 t156 t157, chartularykit_Pick.f m 64 = some t153 → ballot_Next.f 20 a0 a1 (wrap64 (1 + t153)) = some (t155, t156, t157) → t155 = x ∧ t157 = e := by
    intro t153 t155 t156 t157 h1 h2
    rw [ep] at h1
    obtain rfl := Option.some.inj h1
    rw [next_eq _ _ _ 16, hx] at h2
    simp only [Option.some.injEq, Prod.mk.injEq] at h2
    exact ⟨h2.1.symm, h2.2.2.symm⟩
  by_cases he : e = 0
  · by_cases hgt : x > 1
    · exact chartularylaw19_BallotNext.callsA 20 a0 a1 b0 b1 m n true w rfl (fun _ _ _ _ h1 h2 => by obtain ⟨rfl, rfl⟩ := uniq _ _ _ _ h1 h2; exact ⟨he, hgt⟩) P
    · exact chartularylaw19_BallotNext.callsB 20 a0 a1 b0 b1 m n true w rfl (fun _ _ _ _ h1 h2 => by obtain ⟨rfl, rfl⟩ := uniq _ _ _ _ h1 h2; exact ⟨he, hgt⟩) P
  · exact chartularylaw19_BallotNext.callsC 20 a0 a1 b0 b1 m n true w rfl (fun _ _ _ _ h1 h2 => by obtain ⟨rfl, rfl⟩ := uniq _ _ _ _ h1 h2; exact he) P
end Go.Proofs.Ytheafmjdncmpoaa
