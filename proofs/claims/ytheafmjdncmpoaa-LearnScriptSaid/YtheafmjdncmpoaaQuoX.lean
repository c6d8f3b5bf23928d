/-
  Quorum: Lose.
-/
import Derived.Test.YtheafmjdncmpoaaQuoL
namespace Go.Proofs.Ytheafmjdncmpoaa
set_option linter.unusedSimpArgs false
set_option linter.unusedVariables false
open Go.RowKit Go.Proofs.YtheafmjdncmpoaaW.PrintWords Go.Proofs.YtheafmjdncmpoaaW.PrintMore

/-- what Lose answers, and the slots behind it -/
def loseI (S : List Qs) (n : Int) : Int × List Qs :=
  match slotN S n with
  | none => (6, S)
  | some i => if (S.getD i zQ).b = 1 ∨ (S.getD i zQ).y.isSome = true then (9, S) else (0, S.set i { S.getD i zQ with b := 1 })
theorem none_false {w : World} {b : Nat} {need : Int} (h : w.cell? ⟨b, 1, none⟩ = some (.int .i64 need)) (hn : need ≠ 0) : Calls Try.prog 70 #[.pointer (some ⟨b, 0, none⟩)] w fun e w' => e = .returned (.bool false) ∧ w' = w := by
  have := none_at b need w h
  rwa [show (need == 0) = false by simpa using hn] at this
set_option maxHeartbeats 3200000 in
set_option maxRecDepth 100000 in
theorem Lose_any (base : Nat) (F : Nat → Prop) (b : Nat) (S : List Qs) (need n : Int) (w : World) (h : QAt w base F b S need) (hS : S.length ≤ 1000) (hpos : 0 < S.length) (hneed : need ≠ 0) :
    Calls Try.prog 38 #[.pointer (some ⟨b, 0, none⟩), .int .i64 n] w fun e w' => e = .returned (.int .i64 (loseI S n).1) ∧ Moved F w w' ∧ QAt w' base F b (loseI S n).2 need := by
  obtain ⟨g, cap, hv⟩ := h.row hpos
  have hc0 := cell_of_row _ b 0 _ _ _ hv.2.2.1
  have hc1 := cell_of_row _ b 1 _ _ _ hv.2.2.1
  simp at hc0 hc1
  have HN := Aside0.mk (none_false hc1 hneed)
  have HV := Aside0.mk hv
  have HF : Aside0 (∀ (w' : World) (c : Nat), Below w.heap.size w w' → w'.cell? ⟨c, 0, none⟩ = some (.int .i64 n) → Calls Try.prog 67 #[.slice (some ⟨g, 0, none⟩) S.length cap, .func (.func 96) #[] #[.pointer (some ⟨c, 0, none⟩)]] w' fun e u => e = .returned (.pointer ((slotN S n).map fun i => ⟨g, i * 3, none⟩)) ∧ Below w'.heap.size w' u) :=
    ⟨fun w' c hb hc => find_of g cap c S n w' hS (fun i hi => (hv.slots i hi).below hb) hc⟩
  clear h hv
  unfold loseI
  obtain ⟨sl, hsl⟩ : ∃ sl, slotN S n = sl := ⟨_, rfl⟩
  rw [hsl] at HF ⊢
  have HSL := Aside0.mk hsl
  clear hsl
  cases sl with
  | none =>
    simp only [Option.map_none] at HF
    go_enter Try.func38, Try.ntmps38
    go_wp2_with (go_at_call 70; (with_reducible refine HN.out.mono ?_); rintro e w1 ⟨rfl, hw⟩; have hw := hw.symm; subst hw)
    go_region_held3 (fun w' => Below w.heap.size w w' ∧ w'.cell? ⟨b, 0, none⟩ = some (.slice (some ⟨g, 0, none⟩) S.length cap) ∧ w'.cell? ⟨b, 1, none⟩ = some (.int .i64 need))
      (first | exact ⟨below_drew (Below.refl _ _), by simpa using hc0, by simpa using hc1⟩ | assumption)
      (first | (go_at_call 68; refine (of_box _ _).mono ?_; rintro e u ⟨c, rfl, hb, hc⟩; have hk := held_next ‹_› hb; clear hb) | (go_at_call 67; refine (HF.out _ _ (held_below ‹_›) ‹_›).mono ?_; rintro e u ⟨rfl, hb⟩; have hk := held_next ‹_› hb; clear hb))
    have HB := Aside0.mk (held_below ‹_›)
    go_wp2
    go_ret
    exact ⟨rfl, Moved.of_below HB.out, (HV.out.below HB.out).at⟩
  | some i =>
    have hi := (firstN_lt HSL.out).1
    simp only [Option.map_some] at HF ⊢
    have HI := Aside0.mk hi
    have hsa := HV.out.slots i hi
    obtain ⟨s, hs⟩ : ∃ s, S.getD i zQ = s := ⟨_, rfl⟩
    rw [hs] at hsa
    have HSA := Aside0.mk hsa
    have HS := Aside0.mk hs
    rw [hs]
    clear hsa hs hi
    by_cases hb1 : s.b = 1
    · rw [if_pos (Or.inl hb1)]
      go_enter Try.func38, Try.ntmps38
      go_wp2_with (go_at_call 70; (with_reducible refine HN.out.mono ?_); rintro e w1 ⟨rfl, hw⟩; have hw := hw.symm; subst hw)
      go_region_held3 (fun w' => Below w.heap.size w w' ∧ w'.cell? ⟨b, 0, none⟩ = some (.slice (some ⟨g, 0, none⟩) S.length cap) ∧ w'.cell? ⟨b, 1, none⟩ = some (.int .i64 need))
        (first | exact ⟨below_drew (Below.refl _ _), by simpa using hc0, by simpa using hc1⟩ | assumption)
        (first | (go_at_call 68; refine (of_box _ _).mono ?_; rintro e u ⟨c, rfl, hb, hc⟩; have hk := held_next ‹_› hb; clear hb) | (go_at_call 67; refine (HF.out _ _ (held_below ‹_›) ‹_›).mono ?_; rintro e u ⟨rfl, hb⟩; have hk := held_next ‹_› hb; clear hb))
      have HB := Aside0.mk (held_below ‹_›)
      obtain ⟨s0, s1, _⟩ := HSA.out.below HB.out
      simp only at s1
      rw [hb1] at s1
      go_wp2
      go_ret
      exact ⟨rfl, Moved.of_below HB.out, (HV.out.below HB.out).at⟩
    · have hb1' : (s.b == 1) = false := by simpa using hb1
      obtain ⟨y, hy⟩ : ∃ y, s.y = y := ⟨_, rfl⟩
      cases y with
      | some v =>
        rw [if_pos (Or.inr (by rw [hy]; rfl))]
        go_enter Try.func38, Try.ntmps38
        go_wp2_with (go_at_call 70; (with_reducible refine HN.out.mono ?_); rintro e w1 ⟨rfl, hw⟩; have hw := hw.symm; subst hw)
        go_region_held3 (fun w' => Below w.heap.size w w' ∧ w'.cell? ⟨b, 0, none⟩ = some (.slice (some ⟨g, 0, none⟩) S.length cap) ∧ w'.cell? ⟨b, 1, none⟩ = some (.int .i64 need))
          (first | exact ⟨below_drew (Below.refl _ _), by simpa using hc0, by simpa using hc1⟩ | assumption)
          (first | (go_at_call 68; refine (of_box _ _).mono ?_; rintro e u ⟨c, rfl, hb, hc⟩; have hk := held_next ‹_› hb; clear hb) | (go_at_call 67; refine (HF.out _ _ (held_below ‹_›) ‹_›).mono ?_; rintro e u ⟨rfl, hb⟩; have hk := held_next ‹_› hb; clear hb))
        have HB := Aside0.mk (held_below ‹_›)
        have s1 := (HSA.out.below HB.out).2.1
        have hm := HSA.out.met HB.out
        rw [hy] at hm
        simp only at s1
        have HM := Aside0.mk hm
        clear hm
        go_wp2_with (go_at_call 71; (refine HM.out.mono ?_); rintro e w3 ⟨rfl, hb⟩; have HB3 := Aside0.mk (below_step HB.out hb); clear hb)
        go_ret
        exact ⟨rfl, Moved.of_below HB3.out, (HV.out.below HB3.out).at⟩
      | none =>
        rw [if_neg (by rw [hy]; simp [hb1])]
        go_enter Try.func38, Try.ntmps38
        go_wp2_with (go_at_call 70; (with_reducible refine HN.out.mono ?_); rintro e w1 ⟨rfl, hw⟩; have hw := hw.symm; subst hw)
        go_region_held3 (fun w' => Below w.heap.size w w' ∧ w'.cell? ⟨b, 0, none⟩ = some (.slice (some ⟨g, 0, none⟩) S.length cap) ∧ w'.cell? ⟨b, 1, none⟩ = some (.int .i64 need))
          (first | exact ⟨below_drew (Below.refl _ _), by simpa using hc0, by simpa using hc1⟩ | assumption)
          (first | (go_at_call 68; refine (of_box _ _).mono ?_; rintro e u ⟨c, rfl, hb, hc⟩; have hk := held_next ‹_› hb; clear hb) | (go_at_call 67; refine (HF.out _ _ (held_below ‹_›) ‹_›).mono ?_; rintro e u ⟨rfl, hb⟩; have hk := held_next ‹_› hb; clear hb))
        have HB := Aside0.mk (held_below ‹_›)
        have s1 := (HSA.out.below HB.out).2.1
        have hm := HSA.out.met HB.out
        rw [hy] at hm
        simp only at s1
        have HM := Aside0.mk hm
        clear hm
        go_wp2_with (go_at_call 71; (refine HM.out.mono ?_); rintro e w3 ⟨rfl, hb⟩; have HB3 := Aside0.mk (below_step HB.out hb); have s3 := pw_cell_below hb s1; obtain ⟨_, _, _, cells, hcl⟩ := (HV.out.below HB3.out).row_ne; have hf3 := frozen_of_row w3 g (i * 3 + 1) cells 110 hcl; clear hb hcl)
        go_ret
        have hv3 := HV.out.below HB3.out
        have hl := hv3.lose i HI.out
        rw [HS.out] at hl
        exact ⟨rfl, (Moved.of_below HB3.out).set _ hv3.row_ne.2.1 _, hl.at⟩
end Go.Proofs.Ytheafmjdncmpoaa
