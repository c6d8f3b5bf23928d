/-
  Learn: the law's long; what no learner answers.
-/
import Derived.Test.YtheafmjdncmpoaaLrnO
import Derived.Test.YtheafmjdncmpoaaLrnA
import Derived.Outline
namespace Go.Proofs.Ytheafmjdncmpoaa
set_option linter.unusedSimpArgs false
set_option linter.unusedVariables false
open Go.RowKit Go.Proofs.YtheafmjdncmpoaaW.PrintWords Go.Proofs.YtheafmjdncmpoaaW.PrintMore

def zW : Wd := ⟨false, 0, 0, 0, []⟩
/-- words of which the law speaks -/
def Short (xs : List Wd) : Prop := xs.length ≤ 60 ∧ ∀ i, i < xs.length → (xs.getD i zW).x.length ≤ 4100
def LongAns (w : World) (xs : List Wd) (e : Ending) (w' : World) : Prop := ∃ r, e = .returned (.bool r) ∧ Below w.heap.size w w' ∧ (r = false → Short xs)
set_option maxHeartbeats 1600000 in
set_option maxRecDepth 100000 in
theorem long_any {w : World} {a : Option Addr} {c : Nat} {xs : List Wd} (h : IsWords w a xs.length c xs) : Calls Try.prog 55 #[.slice a xs.length c] w (LongAns w xs) := by
  have hl := h.2.2.1
  have H := Aside0.mk h
  clear h
  go_enter Try.func55, Try.ntmps55
  go_wp2
  go_loop [3] (fun i => ∃ k : Nat, k ≤ xs.length ∧ k ≤ 61 ∧ i = .int .i64 k ∧ Aside0 (∀ j, j < k → (xs.getD j zW).x.length ≤ 4100)) (fun i => xs.length - (intOf i).toNat)
  case atStart => exact ⟨0, by omega, by omega, rfl, ⟨fun j hj => absurd hj (by omega)⟩⟩
  case round =>
    obtain ⟨k, hk, hk61, rfl, HP⟩ := hrel
    by_cases hgo : k < xs.length ∧ k < 61
    · obtain ⟨hg1, hg2⟩ := hgo
      obtain ⟨ad, A, c', rfl, hc, _⟩ := H.out.2.2.2 k hg1
      have q0 := hc 4 _ rfl
      rw [show (⟨false, 0, 0, 0, []⟩ : Wd) = zW from rfl] at q0
      rw [add_field _ _ 4 (by omega)] at q0
      obtain ⟨ln, hln⟩ : ∃ ln, (xs.getD k zW).x.length = ln := ⟨_, rfl⟩
      have HL := Aside0.mk hln
      rw [hln] at q0
      clear hln hc
      by_cases h4 : ln ≤ 4100
      · have h4' : (ln : Int) ≤ 4100 := by omega
        go_wp2
        go_round
        case rel =>
          refine ⟨k + 1, by omega, by omega, by go_num, ⟨fun j hj => ?_⟩⟩
          by_cases e : j = k
          · subst e; rw [HL.out]; omega
          · exact HP.out j (by omega)
        case measure => simp [intOf]; omega
      · have h4' : (4100 : Int) < (ln : Int) := by omega
        go_wp2
        go_ret
        exact ⟨true, rfl, Below.refl _ _, fun e => by cases e⟩
    · by_cases h60 : xs.length ≤ 60
      · obtain rfl : k = xs.length := by omega
        have h60' : (xs.length : Int) ≤ 60 := by omega
        have HS : Aside0 (Short xs) := ⟨h60, HP.out⟩
        clear hgo
        go_wp2
        go_ret
        exact ⟨false, by simp; omega, Below.refl _ _, fun _ => HS.out⟩
      · obtain rfl : k = 61 := by omega
        have h60' : (60 : Int) < (xs.length : Int) := by omega
        clear hgo
        go_wp2
        all_goals
          go_ret
          exact ⟨true, by simp, Below.refl _ _, fun e => by cases e⟩
/-- no learner -/
def NoneL (p : Option Addr) (w : World) : Prop := ∀ w', Below w.heap.size w w' → Calls Try.prog 80 #[.pointer p] w' fun e u => e = .returned (.bool true) ∧ u = w'
theorem NoneL.below {p : Option Addr} {w w1 : World} (h : NoneL p w) (hb : Below w.heap.size w w1) : NoneL p w1 := fun w' hw => h w' (below_step hb hw)
theorem noneL_nil (w : World) : NoneL none w := fun w' _ => none80_nil w'
theorem noneL_zero (b : Nat) (w : World) (h : w.cell? ⟨b, 195, none⟩ = some (.int .i64 0)) : NoneL (some ⟨b, 0, none⟩) w := fun w' hb => none80_at b 0 w' (pw_cell_below hb h)
theorem hear_none (p : Option Addr) (k n d : Int) (A : Option Addr) (l c : Nat) (w : World) (h : NoneL p w) :
    Calls Try.prog 51 #[.pointer p, .int .i64 k, .agg #[.int .i64 n, .int .i64 d], .slice A l c] w fun e w' => e = .returned (.tuple #[.bool false, .int .i64 1]) ∧ Below w.heap.size w w' := by
  have HB : Aside0 (Below w.heap.size w ((w.alloc (.cells #[.int .i64 n, .int .i64 d] 23)).alloc (.cells #[.slice A l c] 69))) := ⟨((Below.refl _ _).alloc (Nat.le_refl _) _).alloc (by simp) _⟩
  have HN := Aside0.mk (h _ HB.out)
  clear h
  go_enter Try.func51, Try.ntmps51
  go_wp2_with (go_at_call 80; (with_reducible refine HN.out.mono ?_); rintro e w1 ⟨rfl, hw⟩; have hw := hw.symm; subst hw)
  exact bodyPost_ret (v := .tuple #[.bool false, .int .i64 1]) (by simp [results, Try.results51, go_sem]) rfl ⟨rfl, HB.out⟩
theorem told_none (p : Option Addr) (A : Option Addr) (l c : Nat) (w : World) (h : NoneL p w) :
    Calls Try.prog 59 #[.pointer p, .slice A l c] w fun e w' => e = .returned (.tuple #[.bool false, .int .i64 1]) ∧ Below w.heap.size w w' := by
  have HN := Aside0.mk (h w (Below.refl _ _))
  clear h
  go_enter Try.func59, Try.ntmps59
  go_wp2_with (go_at_call 80; (with_reducible refine HN.out.mono ?_); rintro e w1 ⟨rfl, hw⟩; have hw := hw.symm; subst hw)
  exact bodyPost_ret (v := .tuple #[.bool false, .int .i64 1]) (by simp [results, Try.results59, go_sem]) rfl ⟨rfl, Below.refl _ _⟩
theorem decided_none (p : Option Addr) (w : World) (h : NoneL p w) :
    Calls Try.prog 53 #[.pointer p] w fun e w' => e = .returned (.tuple #[.slice none 0 0, .bool false]) ∧ Below w.heap.size w w' := by
  have HN := Aside0.mk (h w (Below.refl _ _))
  clear h
  go_enter Try.func53, Try.ntmps53
  go_wp2_with (go_at_call 80; (with_reducible refine HN.out.mono ?_); rintro e w1 ⟨rfl, hw⟩; have hw := hw.symm; subst hw)
  exact bodyPost_ret (v := .tuple #[.slice none 0 0, .bool false]) (by simp [results, Try.results53, go_sem]) rfl ⟨rfl, Below.refl _ _⟩
theorem heard_none (p : Option Addr) (k : Int) (w : World) (h : NoneL p w) :
    Calls Try.prog 60 #[.pointer p, .int .i64 k] w fun e w' => e = .returned (.agg #[.int .i64 0, .int .i64 0]) ∧ Below w.heap.size w w' := by
  have HB := Aside0.mk ((Below.refl w.heap.size w).alloc (o := .cells #[.int .i64 0, .int .i64 0] 23) (Nat.le_refl _))
  have HN := Aside0.mk (h _ HB.out)
  clear h
  go_enter Try.func60, Try.ntmps60
  go_wp2_with (go_at_call 80; (with_reducible refine HN.out.mono ?_); rintro e w1 ⟨rfl, hw⟩; have hw := hw.symm; subst hw)
  exact bodyPost_ret (results_cell_row rfl _ _ w.heap.size 23 #[.int .i64 0, .int .i64 0] (0, 0) _ rfl (heap_alloc_new _ _) Try.underlying23 rfl (by kernel_rfl)) rfl ⟨rfl, HB.out⟩
end Go.Proofs.Ytheafmjdncmpoaa
