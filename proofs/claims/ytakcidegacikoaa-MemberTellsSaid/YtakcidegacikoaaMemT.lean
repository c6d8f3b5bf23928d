/-
  MemberTells, the plain law: member and its plain reading tell the same.
-/
import Derived.Test.YtakcidegacikoaaMemP
import Derived.Test.YtakcidegacikoaaMMemberTells6
namespace Go.Proofs.Ytakcidegacikoaa
set_option linter.unusedSimpArgs false
open Go.RowKit Go.Proofs.Ytakcidegacikoaa.PMemberTells Go.Proofs.YtakcidegacikoaaW.PrintWords Go.Proofs.YtakcidegacikoaaW.PrintMore

theorem ref_check_eq (i s c : Int) : chartularyref11_Check.f i s c = some (chkM i s c) := check_eq i s c
theorem ref_both_eq (a0 a1 a2 b0 b1 b2 : Int) : chartularyref11_both.f a0 a1 a2 b0 b1 b2 = some (bothM a0 a1 a2 b0 b1 b2) := both_eq a0 a1 a2 b0 b1 b2
theorem ref_over_eq (a0 a1 a2 b0 b1 b2 : Int) : chartularyref11_Over.f a0 a1 a2 b0 b1 b2 = some (overM a0 a1 a2 b0 b1 b2) := by
  unfold chartularyref11_Over.f overM
  rw [ref_both_eq]
  have := ordI_gt a1 a2 b1 b2
  simp only [Option.bind_some]
  cases bothM a0 a1 a2 b0 b1 b2
  · rfl
  · by_cases h1 : a2 > b2
    · simp [h1, this]
    · by_cases h2 : a2 = b2
      · subst h2; simp [this]
      · simp [h1, h2, this]
theorem both_symm (a0 a1 a2 b0 b1 b2 : Int) : bothM a0 a1 a2 b0 b1 b2 = bothM b0 b1 b2 a0 a1 a2 := by
  unfold bothM
  have : (a0 == b0) = (b0 == a0) := by rw [Bool.eq_iff_iff, beq_iff_eq, beq_iff_eq]; exact eq_comm
  cases okM a0 a1 a2 <;> cases okM b0 b1 b2 <;> first | rfl | (simp only [Bool.true_and]; exact this)
theorem ref_merge_eq (a0 a1 a2 b0 b1 b2 : Int) : chartularyref11_Merge.f a0 a1 a2 b0 b1 b2 = some (mergeI a0 a1 a2 b0 b1 b2) := by
  unfold chartularyref11_Merge.f mergeI
  rw [ref_both_eq, ref_over_eq]
  simp only [Option.bind_some]
  cases h : bothM a0 a1 a2 b0 b1 b2
  · rfl
  · have g1 := ordI_gt b1 b2 a1 a2
    have g2 := ordI_lt a1 a2 b1 b2
    unfold overM
    rw [← both_symm, h]
    by_cases h3 : ordI a1 a2 b1 b2 < 0
    · have : 0 < ordI b1 b2 a1 a2 := by rw [g1]; rw [g2] at h3; omega
      simp [h3, this]
    · have : ¬ 0 < ordI b1 b2 a1 a2 := by rw [g1]; rw [g2] at h3; omega
      simp [h3, this]
theorem ref_refute_eq (a0 a1 a2 b0 b1 b2 : Int) (k : Nat) : chartularyref11_Refute.f (k + 3) a0 a1 a2 b0 b1 b2 = some (refI a0 a1 a2 b0 b1 b2) := by
  unfold chartularyref11_Refute.f
  rw [ref_both_eq]
  simp only [Option.bind_some]
  cases hb : bothM a0 a1 a2 b0 b1 b2
  · simp [chartularyref11_Refute.j0, refI, hb]
  · have hbd : okM a0 a1 a2 = true ∧ okM b0 b1 b2 = true := by
      have hb' := hb
      unfold bothM at hb'
      simp only [Bool.and_eq_true] at hb'
      exact ⟨hb'.1, hb'.2.1⟩
    have k1 := (okM_iff _ _ _).1 hbd.1
    have k2 := (okM_iff _ _ _).1 hbd.2
    have w1 : b2 ≠ 2147483647 → wrap64 (b2 + 1) = b2 + 1 := by intro h; unfold wrap64; omega
    by_cases h1 : a1 = 1
    · subst h1
      by_cases h2 : b1 = 1
      · subst h2
        by_cases h3 : a2 < b2
        · simp [chartularyref11_Refute.j0, chartularyref11_Refute.j1, chartularyref11_Refute.j2, refI, hb, h3, mx]
        · simp [chartularyref11_Refute.j0, chartularyref11_Refute.j1, chartularyref11_Refute.j2, refI, hb, h3, mx]
      · by_cases h3 : a2 ≤ b2
        · by_cases h4 : b2 = 2147483647
          · subst h4; simp [chartularyref11_Refute.j0, chartularyref11_Refute.j1, chartularyref11_Refute.j2, refI, hb, h2, h3, mx]
          · simp [chartularyref11_Refute.j0, chartularyref11_Refute.j1, chartularyref11_Refute.j2, refI, hb, h2, h3, h4, mx, w1 h4]
        · simp [chartularyref11_Refute.j0, chartularyref11_Refute.j1, chartularyref11_Refute.j2, refI, hb, h2, h3, mx]
    · simp [chartularyref11_Refute.j0, refI, hb, h1]
theorem memberTells_plain (a0 a1 a2 b0 b1 b2 : Int) : chartularylaw11_MemberTells.f 20 a0 a1 a2 b0 b1 b2 = some true := by
  have m1 := merge_eq a0 a1 a2 b0 b1 b2 17
  have m2 := ref_merge_eq a0 a1 a2 b0 b1 b2
  have m3 := ref_refute_eq a0 a1 a2 b0 b1 b2 17
  have m4 := over_eq a0 a1 a2 b0 b1 b2 16
  have m5 := ref_over_eq a0 a1 a2 b0 b1 b2
  have m6 : chartularyref11_Live.f a0 a1 a2 = member_Live.f a0 a1 a2 := rfl
  have m7 : ∃ x, member_Live.f a0 a1 a2 = some x := by unfold member_Live.f; split <;> exact ⟨_, rfl⟩
  obtain ⟨x, m7⟩ := m7
  unfold chartularylaw11_MemberTells.f member_Refute.f
  simp [m1, m2, m3, m4, m5, m6, m7, chartularylaw11_MemberTells.j0, check_eq, ref_check_eq, chartularylaw11_awake.f]
theorem memberTells_walk (a0 a1 a2 b0 b1 b2 : Int) (w : World) (_ : (Lit.int .i64 a0).wf = true) (_ : (Lit.int .i64 a1).wf = true) (_ : (Lit.int .i64 a2).wf = true)
    (_ : (Lit.int .i64 b0).wf = true) (_ : (Lit.int .i64 b1).wf = true) (_ : (Lit.int .i64 b2).wf = true) :
    Calls Try.prog 7 #[.agg #[.int .i64 a0, .int .i64 a1, .int .i64 a2], .agg #[.int .i64 b0, .int .i64 b1, .int .i64 b2]] w fun e w' => e = .returned (.bool true) ∧ Below w.heap.size w w' :=
  chartularylaw11_MemberTells.calls 20 _ _ _ _ _ _ true w (memberTells_plain _ _ _ _ _ _)
end Go.Proofs.Ytakcidegacikoaa
