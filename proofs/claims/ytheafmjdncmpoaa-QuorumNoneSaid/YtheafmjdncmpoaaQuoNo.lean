/-
  QuorumNone, walked and answered.
-/
import Derived.Test.YtheafmjdncmpoaaQuoW
namespace Go.Proofs.Ytheafmjdncmpoaa
set_option linter.unusedSimpArgs false
set_option linter.unusedVariables false
open Go.RowKit Go.Proofs.YtheafmjdncmpoaaW.PrintWords Go.Proofs.YtheafmjdncmpoaaW.PrintMore

theorem NoneAt.below {p : Option Addr} {w w1 : World} (h : NoneAt p w) (hb : Below w.heap.size w w1) : NoneAt p w1 := fun w' hw => h w' (below_step hb hw)
set_option maxHeartbeats 6400000 in
set_option maxRecDepth 100000 in
theorem quorumNone_walk (n who : Int) (w : World) (_ : (Lit.int .i64 n).wf = true) (_ : (Lit.int .i64 who).wf = true) :
    Calls Try.prog 9 #[.int .i64 n, .int .i64 who] w fun e w' => e = .returned (.bool true) ∧ Below w.heap.size w w' := by
  go_enter Try.func9, Try.ntmps9
  go_wp2
  go_loopw [6] (fun i wr => ∃ k : Nat, k ≤ 2 ∧ i = .int .i64 k ∧ Aside0 (wr.heap[w.heap.size]? = some (.cells #[.slice none 0 0, .int .i64 0] 59 (0, 0))) ∧ Aside0 (wr.heap[w.heap.size + 1]? = some (.cells #[.pointer none, .pointer (some ⟨w.heap.size, 0, none⟩)] 42 (0, 0))) ∧ Aside0 (Below w.heap.size w wr)) (fun i _ => 2 - (intOf i).toNat)
  case atStart =>
    refine ⟨0, by omega, rfl, ⟨?_⟩, ⟨?_⟩, ⟨?_⟩⟩
    · rw [Below.heap_alloc _ _ _ (by simp)]; exact heap_alloc_new _ _
    · have := heap_alloc_new (w.alloc (.cells #[.slice none 0 0, .int .i64 0] 59)) (.cells #[.pointer none, .pointer (some ⟨w.heap.size, 0, none⟩)] 42)
      simpa using this
    · exact ((Below.refl _ _).alloc (Nat.le_refl _) _).alloc (by simp) _
  case round =>
    obtain ⟨k, hk, rfl, HA, HP, HB⟩ := hrel
    by_cases hgo : k < 2
    · have fin : ∀ p : Option Addr, NoneAt p wr → (w.heap.size + 1 < wr.heap.size) → True := fun _ _ _ => trivial
      have hl0 := (Array.getElem?_eq_some_iff.1 HA.out).1
      have hl1 := (Array.getElem?_eq_some_iff.1 HP.out).1
      have HL0 := Aside0.mk hl0
      have HL1 := Aside0.mk hl1
      have c0 := cell_of_row _ (w.heap.size + 1) 0 _ _ _ HP.out
      have c1 := cell_of_row _ (w.heap.size + 1) 1 _ _ _ HP.out
      have z1 := cell_of_row _ w.heap.size 1 _ _ _ HA.out
      simp at c0 c1 z1
      obtain ⟨p, hp⟩ : ∃ p : Option Addr, NoneAt p wr ∧ wr.cell? ⟨w.heap.size + 1, k, none⟩ = some (.pointer p) := by
        rcases (show k = 0 ∨ k = 1 by omega) with rfl | rfl
        · exact ⟨_, noneAt_nil wr, c0⟩
        · exact ⟨_, noneAt_zero _ wr z1, c1⟩
      obtain ⟨hp1, hp2⟩ := hp
      have HN := Aside0.mk hp1
      have HR := Aside0.mk (Below.refl wr.heap.size wr)
      clear hp1 c0 c1 z1 hl0 hl1 fin
      go_wp2_with (first
        | (go_at_call 40; (with_reducible refine (Add_none _ _ _ _ (HN.out.below HR.out)).mono ?_); rintro e w4 ⟨rfl, hb⟩; have h1 := Aside0.mk (below_step HR.out hb); clear HR hb; have HR := h1; clear h1)
        | (go_at_call 38; (with_reducible refine (Lose_none _ _ _ (HN.out.below HR.out)).mono ?_); rintro e w4 ⟨rfl, hb⟩; have h1 := Aside0.mk (below_step HR.out hb); clear HR hb; have HR := h1; clear h1)
        | (go_at_call 43; (with_reducible refine (Met_none _ _ (HN.out.below HR.out)).mono ?_); rintro e w4 ⟨rfl, hb⟩; have h1 := Aside0.mk (below_step HR.out hb); clear HR hb; have HR := h1; clear h1)
        | (go_at_call 44; (with_reducible refine (Lost_none _ _ (HN.out.below HR.out)).mono ?_); rintro e w4 ⟨rfl, hb⟩; have h1 := Aside0.mk (below_step HR.out hb); clear HR hb; have HR := h1; clear h1)
        | (go_at_call 45; (with_reducible refine (Open_none _ _ (HN.out.below HR.out)).mono ?_); rintro e w4 ⟨rfl, hb⟩; have h1 := Aside0.mk (below_step HR.out hb); clear HR hb; have HR := h1; clear h1)
        | (go_at_call 46; (with_reducible refine (Nodes_none _ _ (HN.out.below HR.out)).mono ?_); rintro e w4 ⟨rfl, hb⟩; have h1 := Aside0.mk (below_step HR.out hb); clear HR hb; have HR := h1; clear h1))
      go_roundw
      case rel => exact ⟨k + 1, by omega, by go_num, ⟨(HR.out.block _ HL0.out).trans HA.out⟩, ⟨(HR.out.block _ HL1.out).trans HP.out⟩, ⟨below_step HB.out HR.out⟩⟩
      case measure => simp [intOf]; omega
    · obtain rfl : k = 2 := by omega
      go_wp2_with (go_at_call 30; (with_reducible refine (awake_any _).mono ?_); rintro e w4 ⟨rfl, hb⟩; have h1 := Aside0.mk (below_step HB.out hb); clear HB hb; have HB := h1; clear h1)
      go_ret
      exact ⟨rfl, HB.out⟩
end Go.Proofs.Ytheafmjdncmpoaa
