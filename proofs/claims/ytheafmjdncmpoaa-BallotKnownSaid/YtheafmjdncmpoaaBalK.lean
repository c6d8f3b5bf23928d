/-
  BallotKnown, walked by our own hand, over the prints contracts.
-/
import Derived.Test.YtheafmjdncmpoaaPBallotTellsx0
import Derived.Test.YtheafmjdncmpoaaPBallotTellsx1
import Derived.Test.YtheafmjdncmpoaaPBallotTellsx2
import Derived.Test.YtheafmjdncmpoaaPBallotTellsx3
import Derived.Test.YtheafmjdncmpoaaBalG
namespace Go.Proofs.Ytheafmjdncmpoaa.PBallotTells
open Go.RowKit Go.Proofs.YtheafmjdncmpoaaW.PrintWords Go.Proofs.YtheafmjdncmpoaaW.PrintLast Go.Proofs.YtheafmjdncmpoaaW.PrintMore
attribute [local go_sem] max2_int min2_int max_two min_two max_three min_three max_four min_four   -- for this text's walks alone
set_option linter.unusedVariables false
set_option linter.unusedSimpArgs false

attribute [local go_sem high] eqA23
theorem info23 : (Try.prog.info? 23).map (fun i => (i.zero, i.size, i.bytes)) = some (some (.agg #[(.int .i64 0), (.int .i64 0)]), 2, 16) := by kernel_rfl
def chartularylaw19_BallotKnown.f (k : Nat) : Option (Bool) := some true
theorem chartularylaw19_BallotKnown.mono : ∀ k, LeO (chartularylaw19_BallotKnown.f k) (chartularylaw19_BallotKnown.f (k + 1)) := fun _ => LeO.refl _
theorem known_n1 : chartularylaw19_next.f 9 4 3 3 5 3 0 = some true := by kernel_rfl
theorem known_n2 : chartularylaw19_next.f 9 2147483647 3 3 0 0 5 = some true := by kernel_rfl
theorem known_n3 : chartularylaw19_next.f 9 0 0 0 0 0 2 = some true := by kernel_rfl
theorem known_n4 : chartularylaw19_next.f 9 0 1 1 0 0 2 = some true := by kernel_rfl
theorem known_w : chartularylaw19_awake.f 9 = some true := by kernel_rfl
theorem known_l : ballot_Less.f 9 2 1 2 1 = some false := by kernel_rfl
theorem known_m0 : ballot_Max.f 9 [] = some (0, 0) := by kernel_rfl
theorem known_m1 : ballot_Max.f 9 [⟨1, 3⟩, ⟨2, 1⟩] = some (2, 1) := by kernel_rfl
set_option maxHeartbeats 8000000 in
set_option maxRecDepth 100000 in
theorem chartularylaw19_BallotKnown.calls (k : Nat)  (r : Bool) (w : World) (h : chartularylaw19_BallotKnown.f k  = some r) :
    Calls Try.prog 5 #[] w fun e w' => e = .returned (.bool r) ∧ Below w.heap.size w w' := by
  have hu23 := Try.underlying23
  obtain rfl := Option.some.inj h
  clear h
  obtain ⟨ys, hys⟩ : ∃ y_ : List (S23), y_ = [(⟨1, 3⟩ : S23), (⟨2, 1⟩ : S23)] := ⟨_, rfl⟩
  have M0 := Aside0.mk (fun w' : World => ballot_Max.calls 9 none 0 ([] : List (S23)) 0 0 w' (Kd.C_nil _ _) (Nat.le_refl _) known_m0)
  have M1 := Aside0.mk (show ballot_Max.f 9 ys = some (2, 1) by rw [hys]; exact known_m1)
  have Ny := Aside0.mk hys
  clear hys
  have HB := Aside0.mk (Below.refl w.heap.size w)
  go_enter Try.func5, Try.ntmps5
  go_wp2_with (first
    | (go_at_call 21; (with_reducible refine (chartularylaw19_of.calls _ _ _ _ _ rfl).mono ?_); rintro e w1 ⟨rfl, hb⟩; have n0_ := Aside0.mk (below_step (by repeat (first | (with_reducible first | exact HB.out | apply below_alloc | apply pw_below_drewN | apply below_drew1) | exact HB.out)) hb); clear HB hb; have HB := n0_; clear n0_)
    | (go_at_call 29; (with_reducible refine (chartularylaw19_next.calls 9 _ _ _ _ _ _ true _ known_n1).mono ?_); rintro e w1 ⟨rfl, hb⟩; have n0_ := Aside0.mk (below_step (by repeat (first | (with_reducible first | exact HB.out | apply below_alloc | apply pw_below_drewN | apply below_drew1) | exact HB.out)) hb); clear HB hb; have HB := n0_; clear n0_)
    | (go_at_call 29; (with_reducible refine (chartularylaw19_next.calls 9 _ _ _ _ _ _ true _ known_n2).mono ?_); rintro e w1 ⟨rfl, hb⟩; have n0_ := Aside0.mk (below_step (by repeat (first | (with_reducible first | exact HB.out | apply below_alloc | apply pw_below_drewN | apply below_drew1) | exact HB.out)) hb); clear HB hb; have HB := n0_; clear n0_)
    | (go_at_call 29; (with_reducible refine (chartularylaw19_next.calls 9 _ _ _ _ _ _ true _ known_n3).mono ?_); rintro e w1 ⟨rfl, hb⟩; have n0_ := Aside0.mk (below_step (by repeat (first | (with_reducible first | exact HB.out | apply below_alloc | apply pw_below_drewN | apply below_drew1) | exact HB.out)) hb); clear HB hb; have HB := n0_; clear n0_)
    | (go_at_call 29; (with_reducible refine (chartularylaw19_next.calls 9 _ _ _ _ _ _ true _ known_n4).mono ?_); rintro e w1 ⟨rfl, hb⟩; have n0_ := Aside0.mk (below_step (by repeat (first | (with_reducible first | exact HB.out | apply below_alloc | apply pw_below_drewN | apply below_drew1) | exact HB.out)) hb); clear HB hb; have HB := n0_; clear n0_)
    | (go_at_call 18; (with_reducible refine (chartularylaw19_awake.calls 9 true _ known_w).mono ?_); rintro e w1 ⟨rfl, hb⟩; have n0_ := Aside0.mk (below_step (by repeat (first | (with_reducible first | exact HB.out | apply below_alloc | apply pw_below_drewN | apply below_drew1) | exact HB.out)) hb); clear HB hb; have HB := n0_; clear n0_)
    | (go_at_call 23; (with_reducible refine (ballot_Less.calls 9 _ _ _ _ false _ known_l).mono ?_); rintro e w1 ⟨rfl, hb⟩; have n0_ := Aside0.mk (below_step (by repeat (first | (with_reducible first | exact HB.out | apply below_alloc | apply pw_below_drewN | apply below_drew1) | exact HB.out)) hb); clear HB hb; have HB := n0_; clear n0_)
    | (go_at_call 27; (with_reducible refine Calls.mono (show Calls Try.prog 27 #[.slice none 0 0] _ _ from M0.out _) ?_); rintro e w1 ⟨rfl, hb⟩; have n0_ := Aside0.mk (below_step (by repeat (first | (with_reducible first | exact HB.out | apply below_alloc | apply pw_below_drewN | apply below_drew1) | exact HB.out)) hb); clear HB hb; have HB := n0_; clear n0_)
    | ((with_reducible refine gate_dst (N := 38) rfl ?_); (try (refine gate_guard (by rfl) ?_; dsimp only)); refine Kd.R_lit k23 _ 23 ?hg (N := 38) ?hd (xs := ([(⟨1, 3⟩ : S23), (⟨2, 1⟩ : S23)] : List (S23))) (inner := [.int .i64 1, .int .i64 3, .int .i64 2, .int .i64 1]) (ok := fun _ => True) (okp := fun _ => True) ?hr ?hp (fun _ hk => hk) trivial (Below.refl _ _) (Nat.le_refl _) (by simp) ?_; (case hd => rfl); (case hg => rfl); (case hr => first | (go_simp; done) | (go_simp; rfl)); (case hp => exact (Reps.c2 (show Kd.M k23 _ _ _ (⟨1, 3⟩ : S23) [.int .i64 1, .int .i64 3] from (k23_mkM _ _ _ (⟨1, 3⟩ : S23) )) (Reps.c2 (show Kd.M k23 _ _ _ (⟨2, 1⟩ : S23) [.int .i64 2, .int .i64 1] from (k23_mkM _ _ _ (⟨2, 1⟩ : S23) )) (Reps.none _ _)))); intro v193 w73 ho74 hb hg_ hnew_; clear hg_ hnew_; (first | rw [← Ny.out] at ho74 | (simp only [Int.reduceToNat] at ho74; rw [← Ny.out] at ho74)); have n0_ := Aside0.mk (Kd.R_lower ho74 (below_size (by repeat (first | (with_reducible first | exact HB.out | apply below_alloc | apply pw_below_drewN | apply below_drew1) | exact HB.out)))); have n1_ := Aside0.mk (below_step (by repeat (first | (with_reducible first | exact HB.out | apply below_alloc | apply pw_below_drewN | apply below_drew1) | exact HB.out)) hb); clear HB; have HO194 := n0_; have HB := n1_; clear n0_ n1_; clear hb ho74; obtain ⟨Ao75, co75, eo75⟩ := Kd.R_slice HO194.out; subst eo75)
    | (go_at_call 27; (with_reducible refine (ballot_Max.calls 9 _ _ ys 2 1 _ ?side1 ?side2 M1.out).mono ?_); (case side1 => exact (Kd.R_reads' HO194.out).2.2); (case side2 => exact (Kd.R_reads' HO194.out).2.1); rintro e w1 ⟨rfl, hb⟩; have n0_ := Aside0.mk (below_step (by repeat (first | (with_reducible first | exact HB.out | apply below_alloc | apply pw_below_drewN | apply below_drew1) | exact HB.out)) hb); clear HB hb; have HB := n0_; clear n0_))
  go_ret
  exact ⟨rfl, HB.out⟩

end Go.Proofs.Ytheafmjdncmpoaa.PBallotTells
