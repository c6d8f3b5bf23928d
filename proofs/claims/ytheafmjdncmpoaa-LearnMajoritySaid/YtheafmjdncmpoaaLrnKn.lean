/-
  LearnKnown, walked and answered.
-/
import Derived.Test.YtheafmjdncmpoaaLrnA
namespace Go.Proofs.Ytheafmjdncmpoaa
set_option linter.unusedSimpArgs false
set_option linter.unusedVariables false
open Go.RowKit Go.Proofs.YtheafmjdncmpoaaW.PrintWords Go.Proofs.YtheafmjdncmpoaaW.PrintMore

theorem l3_hear : hearI l3 3 3 2 [9] = ((false, 12), l3) := by kernel_rfl
theorem l3_hear2 : hearI l3 4 2 1 [7] = ((false, 2), l3) := by kernel_rfl
theorem l3_heard : heardI l3 9 = (0, 0) := by kernel_rfl
theorem l3_told : toldI l3 [8] = ((false, 0), l3) := by kernel_rfl
theorem l3_told2 : toldI l3 [9] = ((false, 12), l3) := by kernel_rfl
theorem told_at {w0 u : World} {b : Nat} {L L' : Lr} {z : Int} {q : Bool × Int} (h : LB w0 u b L) (he : toldI L [z] = (q, L')) :
    Calls Try.prog 59 #[.pointer (some ⟨b, 0, none⟩), .slice (some ⟨u.heap.size, 0, none⟩) 1 1] (u.alloc (.cells #[.int .u8 z] 5)) fun e v => e = .returned (.tuple #[.bool q.1, .int .i64 q.2]) ∧ LB w0 v b L' := by
  have := (h.below ((Below.refl _ _).alloc (Nat.le_refl _) _)).told (one_given (heap_alloc_new u (.cells #[.int .u8 z] 5)))
  rw [he] at this
  exact this
set_option maxHeartbeats 3200000 in
set_option maxRecDepth 100000 in
theorem learnKnown_walk (w : World) : Calls Try.prog 16 #[] w fun e w' => e = .returned (.bool true) ∧ Below w.heap.size w w' := by
  have HTH := Aside0.mk (three_any w w (Below.refl _ _))
  have HBA := Aside0.mk b_any
  go_enter Try.func16, Try.ntmps16
  go_wp2_with (first
    | (go_at_call 61; (with_reducible refine HTH.out.mono ?_); rintro e u ⟨b, rfl, hl⟩; have HL := Aside0.mk hl; clear hl)
    | (go_at_call 52; (with_reducible refine (HBA.out _ _ _).mono ?_); rintro e u ⟨rfl, hb⟩; have HX := Aside0.mk (HL.out.below hb); clear HL hb; have HL := HX; clear HX)
    | (go_at_call 62; (with_reducible refine (hear_at HL.out l3_hear rfl).mono ?_); rintro e u ⟨rfl, hl⟩; have HX := Aside0.mk hl; clear HL hl; have HL := HX; clear HX)
    | (go_at_call 62; (with_reducible refine (hear_at HL.out l3_hear2 rfl).mono ?_); rintro e u ⟨rfl, hl⟩; have HX := Aside0.mk hl; clear HL hl; have HL := HX; clear HX)
    | (go_at_call 60; (with_reducible refine (heard_at HL.out l3_heard).mono ?_); rintro e u ⟨rfl, hb⟩; have HX := Aside0.mk (HL.out.below hb); clear HL hb; have HL := HX; clear HX)
    | (go_at_call 59; (with_reducible refine (told_at HL.out l3_told).mono ?_); rintro e u ⟨rfl, hl⟩; have HX := Aside0.mk hl; clear HL hl; have HL := HX; clear HX)
    | (go_at_call 59; (with_reducible refine (told_at HL.out l3_told2).mono ?_); rintro e u ⟨rfl, hl⟩; have HX := Aside0.mk hl; clear HL hl; have HL := HX; clear HX)
    | (go_at_call 49; (with_reducible refine (awake49 _).mono ?_); rintro e u ⟨rfl, hb⟩; have HX := Aside0.mk (HL.out.below hb); clear HL hb; have HL := HX; clear HX))
  go_ret
  exact ⟨rfl, HL.out.hb⟩
end Go.Proofs.Ytheafmjdncmpoaa
