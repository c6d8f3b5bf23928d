/-
  Own text: the sections of a print from here on, over our own contract of member.Refute (mend.py).
-/
import Derived.Test.YtakcidegacikoaaPMemberOnex0
import Derived.Test.YtakcidegacikoaaPMemberOnex2
import Derived.Test.YtakcidegacikoaaMMemberOne3
namespace Go.Proofs.Ytakcidegacikoaa.PMemberOne
open Go.RowKit Go.Proofs.YtakcidegacikoaaW.PrintWords Go.Proofs.YtakcidegacikoaaW.PrintLast Go.Proofs.YtakcidegacikoaaW.PrintMore
attribute [local go_sem] max2_int min2_int max_two min_two max_three min_three max_four min_four   -- for this text's walks alone
set_option linter.unusedVariables false
set_option linter.unusedSimpArgs false

/-! ### chartularylaw11_MemberKnown: function 3, by our own walk -/
def chartularylaw11_MemberKnown.f (k : Nat) : Option (Bool) := some true
theorem chartularylaw11_MemberKnown.mono : ∀ k, LeO (chartularylaw11_MemberKnown.f k) (chartularylaw11_MemberKnown.f (k + 1)) := fun _ => LeO.refl _
theorem known_l : chartularylaw11_left.f 9 2 4 2 2 3 2 2 4 2 = some true := by kernel_rfl
theorem known_a : chartularylaw11_answers.f 9 2 1 3 2 3 2 2 1 3 false = some true := by kernel_rfl
theorem known_b : chartularylaw11_answers.f 9 2 1 3 2 1 7 2 1 7 false = some true := by kernel_rfl
theorem known_m : member_Merge.f 9 2 1 1 3 1 1 = some (0, 0, 0, 2) := by kernel_rfl
theorem known_r : member_Refute.f 9 2 2 1 2 3 1 = some (0, 0, 0, false, 2) := by kernel_rfl
theorem known_c : member_Check.f 2 5 1 = some 2 := by kernel_rfl
theorem known_w : chartularylaw11_awake.f 9 = some true := rfl
set_option maxHeartbeats 8000000 in
theorem chartularylaw11_MemberKnown.calls (k : Nat)  (r : Bool) (w : World) (h : chartularylaw11_MemberKnown.f k  = some r) :
    Calls Try.prog 3 #[] w fun e w' => e = .returned (.bool r) ∧ Below w.heap.size w w' := by
  obtain rfl := Option.some.inj h
  clear h
  have HB := Go.Lib.hid (Below.refl w.heap.size w)
  go_enter Try.func3, Try.ntmps3
  go_wp2_with (first
    | (go_at_call 9; (with_reducible refine (chartularylaw11_of.calls _ _ _ _ _ _ rfl).mono ?_); rintro e w1 ⟨rfl, hb⟩; have n0 := Go.Lib.hid (Go.Proofs.Ytakcidegacikoaa.bnext (by repeat (first | exact HB.out | refine Below.setCell ?_ (by simp <;> omega) _ | apply below_alloc)) hb); clear HB hb; rename _ => HB)
    | (go_at_call 8; (with_reducible refine (chartularylaw11_left.calls 9 _ _ _ _ _ _ _ _ _ true _ known_l).mono ?_); rintro e w1 ⟨rfl, hb⟩; have n0 := Go.Lib.hid (Go.Proofs.Ytakcidegacikoaa.bnext (by repeat (first | exact HB.out | refine Below.setCell ?_ (by simp <;> omega) _ | apply below_alloc)) hb); clear HB hb; rename _ => HB)
    | (go_at_call 10; (with_reducible refine (chartularylaw11_answers.calls 9 _ _ _ _ _ _ _ _ _ _ true _ known_a).mono ?_); rintro e w1 ⟨rfl, hb⟩; have n0 := Go.Lib.hid (Go.Proofs.Ytakcidegacikoaa.bnext (by repeat (first | exact HB.out | refine Below.setCell ?_ (by simp <;> omega) _ | apply below_alloc)) hb); clear HB hb; rename _ => HB)
    | (go_at_call 10; (with_reducible refine (chartularylaw11_answers.calls 9 _ _ _ _ _ _ _ _ _ _ true _ known_b).mono ?_); rintro e w1 ⟨rfl, hb⟩; have n0 := Go.Lib.hid (Go.Proofs.Ytakcidegacikoaa.bnext (by repeat (first | exact HB.out | refine Below.setCell ?_ (by simp <;> omega) _ | apply below_alloc)) hb); clear HB hb; rename _ => HB)
    | (go_at_call 11; (with_reducible refine (member_Merge.calls 9 _ _ _ _ _ _ 0 0 0 2 _ known_m).mono ?_); rintro e w1 ⟨rfl, hb⟩; have n0 := Go.Lib.hid (Go.Proofs.Ytakcidegacikoaa.bnext (by repeat (first | exact HB.out | refine Below.setCell ?_ (by simp <;> omega) _ | apply below_alloc)) hb); clear HB hb; rename _ => HB)
    | (go_at_call 12; (with_reducible refine (member_Refute.calls 9 _ _ _ _ _ _ 0 0 0 false 2 _ known_r).mono ?_); rintro e w1 ⟨rfl, hb⟩; have n0 := Go.Lib.hid (Go.Proofs.Ytakcidegacikoaa.bnext (by repeat (first | exact HB.out | refine Below.setCell ?_ (by simp <;> omega) _ | apply below_alloc)) hb); clear HB hb; rename _ => HB)
    | (go_at_call 13; (with_reducible refine (chartularylaw11_awake.calls 9 true _ known_w).mono ?_); rintro e w1 ⟨rfl, hb⟩; have n0 := Go.Lib.hid (Go.Proofs.Ytakcidegacikoaa.bnext (by repeat (first | exact HB.out | refine Below.setCell ?_ (by simp <;> omega) _ | apply below_alloc)) hb); clear HB hb; rename _ => HB)
    | (go_at_call 14; (with_reducible refine (member_Check.calls _ _ _ 2 _ known_c).mono ?_); rintro e w1 ⟨rfl, hb⟩; have n0 := Go.Lib.hid (Go.Proofs.Ytakcidegacikoaa.bnext (by repeat (first | exact HB.out | refine Below.setCell ?_ (by simp <;> omega) _ | apply below_alloc)) hb); clear HB hb; rename _ => HB))
  go_ret
  exact ⟨rfl, HB.out⟩

/-! ### chartularykit_Pick: function 15 -/
def chartularykit_Pick.f (a0 : Int) (a1 : Int) : Option (Int) := if a1 < 1 then (some 0) else (if a1 = 0 then (none) else (if (Int.tmod a0 a1) < 0 then (some (wrap64 ((Int.tmod a0 a1) + a1))) else (some (Int.tmod a0 a1))))
set_option maxHeartbeats 8000000 in
set_option maxRecDepth 100000 in
theorem chartularykit_Pick.calls (a0 : Int) (a1 : Int) (r : Int) (w : World) (h : chartularykit_Pick.f a0 a1 = some r) :
    Calls Try.prog 15 #[.int .i64 a0, .int .i64 a1] w fun e w' => e = .returned (.int .i64 r) ∧ Drawn0 w w' := by
  have H : (if a1 < 1 then (some 0) else (if a1 = 0 then (none) else (if (Int.tmod a0 a1) < 0 then (some (wrap64 ((Int.tmod a0 a1) + a1))) else (some (Int.tmod a0 a1))))) = some r := h
  clear h
  by_cases c3 : a1 < 1
  · rw [if_pos c3] at H
    have c3b0 : decide (a1 < 1) = true := decide_eq_true c3
    clear c3
    obtain rfl := Option.some.inj H
    go_enter Try.func15, Try.ntmps15
    go_wp2
    go_ret
    exact ⟨by first | rfl | (simp; done) | (simp [*]; done), by repeat (first | exact Drawn0.refl _ | apply Drawn0.step)⟩
  · rw [if_neg c3] at H
    have c3b0 : decide (a1 < 1) = false := decide_eq_false c3
    clear c3
    by_cases c4 : a1 = 0
    · rw [if_pos c4] at H
      exact absurd H (by simp)
    · rw [if_neg c4] at H
      have c4b0 : (a1 == 0) = false := beq_eq_false_iff_ne.mpr c4
      have c4b1 : (a1 != 0) = true := bne_iff_ne.mpr c4
      by_cases c5 : (Int.tmod a0 a1) < 0
      · rw [if_pos c5] at H
        have c5b0 : decide ((Int.tmod a0 a1) < 0) = true := decide_eq_true c5
        clear c5
        obtain rfl := Option.some.inj H
        go_enter Try.func15, Try.ntmps15
        go_wp2
        go_ret
        exact ⟨by first | rfl | (simp; done) | (simp [*]; done), by repeat (first | exact Drawn0.refl _ | apply Drawn0.step)⟩
      · rw [if_neg c5] at H
        have c5b0 : decide ((Int.tmod a0 a1) < 0) = false := decide_eq_false c5
        clear c5
        obtain rfl := Option.some.inj H
        go_enter Try.func15, Try.ntmps15
        go_wp2
        go_ret
        exact ⟨by first | rfl | (simp; done) | (simp [*]; done), by repeat (first | exact Drawn0.refl _ | apply Drawn0.step)⟩

end Go.Proofs.Ytakcidegacikoaa.PMemberOne
