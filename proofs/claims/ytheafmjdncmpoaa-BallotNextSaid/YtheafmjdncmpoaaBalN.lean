/-
  BallotNext: what the print tells that it computes.
-/
import Derived.Test.YtheafmjdncmpoaaPBallotTellsx0
import Derived.Test.YtheafmjdncmpoaaPBallotTellsx1
import Derived.Test.YtheafmjdncmpoaaPBallotTellsx2
import Derived.Test.YtheafmjdncmpoaaPBallotTellsx3
import Derived.Test.YtheafmjdncmpoaaBalP
namespace Go.Proofs.Ytheafmjdncmpoaa.PBallotTells
open Go.RowKit Go.Proofs.YtheafmjdncmpoaaW.PrintWords Go.Proofs.YtheafmjdncmpoaaW.PrintLast Go.Proofs.YtheafmjdncmpoaaW.PrintMore
attribute [local go_sem] max2_int min2_int max_two min_two max_three min_three max_four min_four   -- for this text's walks alone
set_option linter.unusedVariables false
set_option linter.unusedSimpArgs false

attribute [local go_sem high] eqA23
/-! ### chartularylaw19_BallotNext: function 3 -/
def chartularylaw19_BallotNext.f (k : Nat) (a0_0 : Int) (a0_1 : Int) (a1_0 : Int) (a1_1 : Int) (a2 : Int) (a3 : Int) : Option (Bool) := (chartularylaw19_awake.f k).bind fun t152 => ((chartularykit_Pick.f a2 64).bind fun t153 => ((chartularykit_Pick.f a3 64).bind fun t154 => ((ballot_Next.f k a0_0 a0_1 (wrap64 (1 + t153))).bind fun bt155 => ((ballot_Next.f k a1_0 a1_1 (wrap64 (1 + t154))).bind fun bt159 => (if bt155.2.2 = 0 then (if bt155.2.1 = (wrap64 (1 + t153)) then ((ballot_Check.f bt155.1 bt155.2.1).bind fun t168 => (if t168 = 0 then ((ballot_Less.f k a0_0 a0_1 bt155.1 bt155.2.1).bind fun t169 => (if t169 = true then (if bt155.1 > 1 then ((chartularylaw19_of.f (wrap64 (bt155.1 - 1)) (wrap64 (1 + t153))).bind fun bt170 => ((ballot_Less.f k a0_0 a0_1 bt170.1 bt170.2).bind fun t172 => (if t172 = true then (some false) else (if t152 = true then (if bt159.2.2 = 0 then (if (wrap64 (1 + t153)) = (wrap64 (1 + t154)) then (some true) else (some (!(bt155.1 == bt159.1) || (!(bt155.2.1 == bt159.2.1))))) else (some true)) else (some false))))) else (if t152 = true then (if bt159.2.2 = 0 then (if (wrap64 (1 + t153)) = (wrap64 (1 + t154)) then (some true) else (some (!(bt155.1 == bt159.1) || (!(bt155.2.1 == bt159.2.1))))) else (some true)) else (some false))) else (some false))) else (some false))) else (some false)) else (if t152 = true then ((chartularylaw19_of.f 0 0).bind fun bt163 => (if (bt155.1 == bt163.1 && (bt155.2.1 == bt163.2)) = true then (if bt155.2.2 = 5 then ((ballot_Check.f a0_0 a0_1).bind fun t165 => (if t165 = 0 then (some true) else (if bt155.2.2 = 2 then ((ballot_Check.f a0_0 a0_1).bind fun t166 => (some (t166 != 0))) else (some false)))) else (if bt155.2.2 = 2 then ((ballot_Check.f a0_0 a0_1).bind fun t167 => (some (t167 != 0))) else (some false))) else (some false))) else (some false)))))))
theorem chartularylaw19_BallotNext.mono : ∀ a0 a1 a2 a3 a4 a5 k, LeO (chartularylaw19_BallotNext.f k a0 a1 a2 a3 a4 a5) (chartularylaw19_BallotNext.f (k + 1) a0 a1 a2 a3 a4 a5) := by
  intro a0 a1 a2 a3 a4 a5 k
  unfold chartularylaw19_BallotNext.f
  repeat' first
      | (with_reducible exact ballot_Less.mono _ _ _ _ _)
      | (with_reducible exact ballot_Next.mono _ _ _ _)
      | (with_reducible exact chartularylaw19_awake.mono _)
      | (with_reducible exact LeO.refl _)
      | (with_reducible exact LeO.none _)
      | (with_reducible refine LeO.ite ?_ ?_)
      | (with_reducible refine LeO.bind ?_ (fun _ => ?_))
      | exact ballot_Less.mono _ _ _ _ _
      | exact ballot_Next.mono _ _ _ _
      | exact chartularylaw19_awake.mono _
      | exact LeO.none _
      | refine LeO.ite ?_ ?_
      | refine LeO.bind ?_ (fun _ => ?_)
def chartularylaw19_BallotNext.T6 : Bool × List (List Nat × List Nat) := (true, [([], []), ([0], [0]), ([1], [1]), ([1, 1], [1]), ([2, 3, 1], [1, 2, 3]), ([1, 4], [1, 4]), ([5, 3], [5]), ([6], [6]), ([7, 6], [6, 7]), ([8, 6, 6], [6, 8]), ([9], [9]), ([10, 9, 9], [9, 10]), ([11, 9], [9, 11]), ([9, 12, 6], [6, 9, 12]), ([13, 11, 6], [6, 13]), ([14], [14]), ([15, 14], [14, 15]), ([16, 14, 14], [14, 16]), ([17], [17]), ([18, 17, 17], [17, 18]), ([19, 17], [17, 19]), ([17, 20, 14], [14, 17, 20]), ([14, 21, 6], [6, 14, 21]), ([6, 22], [6, 22]), ([23, 19, 0, 1, 2, 3, 4, 5, 6, 7, 8, 9, 10, 11, 12, 13, 14, 15, 16, 17, 18, 19, 20, 21, 22, 23], [23])])
def chartularylaw19_BallotNext.B6 : List Nat := [0, 1, 3, 3, 15, 31, 63, 127, 255, 511, 1023, 2047, 4095, 8191, 16383, 32767, 65535, 131071, 262143, 524287, 1048575, 2097151, 4194303, 8388607, 16777215]
theorem chartularylaw19_BallotNext.tab6 : rtab .any (opsOf Try.f3 6) = chartularylaw19_BallotNext.T6 := by kernel_rfl
theorem chartularylaw19_BallotNext.bits6 : waitsOk chartularylaw19_BallotNext.T6.2 chartularylaw19_BallotNext.B6 = true := by kernel_rfl
def chartularylaw19_BallotNext.T7 : Bool × List (List Nat × List Nat) := (true, [([], []), ([0], [0]), ([], []), ([1, 2], [1, 2]), ([3], [3]), ([4], [4]), ([5, 4, 4], [4, 5]), ([6, 4], [4, 6]), ([4, 7], [4, 7]), ([8, 6], [8]), ([9], [9]), ([9], [9]), ([10, 11, 9, 9], [9, 10, 11]), ([12, 9], [9, 12]), ([9, 13], [9, 13]), ([14, 12], [14]), ([15], [15]), ([16, 15], [15, 16]), ([17, 15], [15, 17]), ([18, 15, 15], [15, 18]), ([19], [19]), ([19], [19]), ([21, 19], [19, 21]), ([22, 19], [19, 22]), ([19], [19]), ([23, 24, 19, 19], [19, 23, 24]), ([20, 25, 25, 19], [19, 20, 25]), ([19, 26, 15], [15, 19, 26]), ([15, 27], [15, 27])])
def chartularylaw19_BallotNext.B7 : List Nat := [0, 1, 0, 7, 15, 31, 63, 127, 255, 511, 1023, 1023, 4095, 8191, 16383, 32767, 65535, 131071, 262143, 524287, 1048575, 1048575, 3145727, 7340031, 1048575, 32505855, 67108863, 134217727, 268435455]
theorem chartularylaw19_BallotNext.tab7 : rtab .any (opsOf Try.f3 7) = chartularylaw19_BallotNext.T7 := by kernel_rfl
theorem chartularylaw19_BallotNext.bits7 : waitsOk chartularylaw19_BallotNext.T7.2 chartularylaw19_BallotNext.B7 = true := by kernel_rfl

end Go.Proofs.Ytheafmjdncmpoaa.PBallotTells
