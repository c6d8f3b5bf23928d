/-
  Quorum: what is answered of a quorum that is nil, or that nobody made.
-/
import Derived.Test.YtheafmjdncmpoaaQuoN
namespace Go.Proofs.Ytheafmjdncmpoaa
set_option linter.unusedSimpArgs false
set_option linter.unusedVariables false
open Go.RowKit Go.Proofs.YtheafmjdncmpoaaW.PrintWords Go.Proofs.YtheafmjdncmpoaaW.PrintMore

/-- nobody made it -/
def NoneAt (p : Option Addr) (w : World) : Prop := ∀ w', Below w.heap.size w w' → Calls Try.prog 70 #[.pointer p] w' fun e u => e = .returned (.bool true) ∧ u = w'
theorem noneAt_nil (w : World) : NoneAt none w := fun w' _ => none_nil w'
theorem noneAt_zero (b : Nat) (w : World) (h : w.cell? ⟨b, 1, none⟩ = some (.int .i64 0)) : NoneAt (some ⟨b, 0, none⟩) w := fun w' hb => none_at b 0 w' (pw_cell_below hb h)
theorem Add_none (p : Option Addr) (n who : Int) (w : World) (h : NoneAt p w) : Calls Try.prog 40 #[.pointer p, .int .i64 n, .int .i64 who] w fun e w' => e = .returned (.int .i64 1) ∧ Below w.heap.size w w' := by
  have HN := Aside0.mk (h (w.alloc (.cells #[.int .i64 who] 3)) ((Below.refl _ _).alloc (Nat.le_refl _) _))
  clear h
  go_enter Try.func40, Try.ntmps40
  go_wp2_with (go_at_call 70; (with_reducible refine HN.out.mono ?_); rintro e w1 ⟨rfl, hw⟩; subst hw)
  go_ret
  exact ⟨rfl, (Below.refl _ _).alloc (Nat.le_refl _) _⟩
theorem Lose_none (p : Option Addr) (n : Int) (w : World) (h : NoneAt p w) : Calls Try.prog 38 #[.pointer p, .int .i64 n] w fun e w' => e = .returned (.int .i64 1) ∧ Below w.heap.size w w' := by
  have HN := Aside0.mk (h w (Below.refl _ _))
  clear h
  go_enter Try.func38, Try.ntmps38
  go_wp2_with (go_at_call 70; (with_reducible refine HN.out.mono ?_); rintro e w1 ⟨rfl, hw⟩; have hw := hw.symm; subst hw)
  go_ret
  exact ⟨rfl, Below.refl _ _⟩
theorem Open_none (p : Option Addr) (w : World) (h : NoneAt p w) : Calls Try.prog 45 #[.pointer p] w fun e w' => e = .returned (.slice none 0 0) ∧ Below w.heap.size w w' := by
  have HN := Aside0.mk (h w (Below.refl _ _))
  clear h
  go_enter Try.func45, Try.ntmps45
  go_wp2_with (go_at_call 70; (with_reducible refine HN.out.mono ?_); rintro e w1 ⟨rfl, hw⟩; have hw := hw.symm; subst hw)
  go_ret
  exact ⟨rfl, Below.refl _ _⟩
theorem Nodes_none (p : Option Addr) (w : World) (h : NoneAt p w) : Calls Try.prog 46 #[.pointer p] w fun e w' => e = .returned (.slice none 0 0) ∧ Below w.heap.size w w' := by
  have HN := Aside0.mk (h w (Below.refl _ _))
  clear h
  go_enter Try.func46, Try.ntmps46
  go_wp2_with (go_at_call 70; (with_reducible refine HN.out.mono ?_); rintro e w1 ⟨rfl, hw⟩; have hw := hw.symm; subst hw)
  go_ret
  exact ⟨rfl, Below.refl _ _⟩
theorem Met_none (p : Option Addr) (w : World) (h : NoneAt p w) : Calls Try.prog 43 #[.pointer p] w fun e w' => e = .returned (.bool false) ∧ Below w.heap.size w w' := by
  have HN := Aside0.mk (fun n => h (w.drewN n) (pw_below_drewN (Below.refl _ _) n))
  clear h
  go_enter Try.func43, Try.ntmps43
  go_wp2_with fail
  go_quiet ((go_at_call 70; exact Calls.quiet_of_same (HN.out _)))
  go_wp2
  go_ret
  exact ⟨rfl, pw_below_drewN (Below.refl _ _) _⟩
theorem Lost_none (p : Option Addr) (w : World) (h : NoneAt p w) : Calls Try.prog 44 #[.pointer p] w fun e w' => e = .returned (.bool false) ∧ Below w.heap.size w w' := by
  have HN := Aside0.mk (fun n => h (w.drewN n) (pw_below_drewN (Below.refl _ _) n))
  clear h
  go_enter Try.func44, Try.ntmps44
  go_wp2_with fail
  go_quiet ((go_at_call 70; exact Calls.quiet_of_same (HN.out _)))
  go_wp2
  go_ret
  exact ⟨rfl, pw_below_drewN (Below.refl _ _) _⟩
end Go.Proofs.Ytheafmjdncmpoaa
