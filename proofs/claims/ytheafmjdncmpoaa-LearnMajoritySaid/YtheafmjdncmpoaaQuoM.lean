/-
  Quorum: Pick, first, met.
-/
import Derived.Test.YtheafmjdncmpoaaQuoP
namespace Go.Proofs.Ytheafmjdncmpoaa
set_option linter.unusedSimpArgs false
set_option linter.unusedVariables false
open Go.RowKit Go.Proofs.YtheafmjdncmpoaaW.PrintWords Go.Proofs.YtheafmjdncmpoaaW.PrintMore

theorem tmod_bounds (x n : Int) (hn : 1 ≤ n) : -n < x.tmod n ∧ x.tmod n < n := by
  have h1 := Int.tmod_lt_of_pos x (show 0 < n by omega)
  have h2 := Int.lt_tmod_of_pos x (show 0 < n by omega)
  exact ⟨h2, h1⟩
theorem tmod_pick (x n : Int) (hn : 1 ≤ n) : (if x.tmod n < 0 then x.tmod n + n else x.tmod n) = x % n := by
  rw [Int.tmod_eq_emod]
  have h0 := Int.emod_nonneg x (show n ≠ 0 by omega)
  have h1 := Int.emod_lt_of_pos x (show 0 < n by omega)
  split
  · split at * <;> omega
  · omega
theorem ret_i {a b : Int} (h : a = b) : Ending.returned (.int .i64 a) = .returned (.int .i64 b) := by rw [h]
set_option maxHeartbeats 1600000 in
theorem Pick_any (x n : Int) (w : World) (hn : 1 ≤ n) (hn2 : n ≤ 9223372036854775807) : Calls Try.prog 19 #[.int .i64 x, .int .i64 n] w fun e w' => e = .returned (.int .i64 (x % n)) ∧ w = w' := by
  have hb := tmod_bounds x n hn
  have HP := Aside0.mk (tmod_pick x n hn)
  obtain ⟨r, hr⟩ : ∃ r, r = x % n := ⟨_, rfl⟩
  rw [← hr] at HP ⊢
  clear hr
  go_enter Try.func19, Try.ntmps19
  go_wp2
  · have h : x.tmod n < 0 := by assumption
    have hr := HP.out
    rw [if_pos h] at hr
    go_ret
    exact ⟨ret_i hr, rfl⟩
  · have h : 0 ≤ x.tmod n := by assumption
    have hr := HP.out
    rw [if_neg (by omega)] at hr
    go_ret
    exact ⟨ret_i hr, rfl⟩
/-- a slice of ints told -/
def Told (w : World) (base : Nat) (e : Ending) (w' : World) (l : List Int) : Prop := ∃ A c, e = .returned (.slice A l.length c) ∧ Below base w w' ∧ Kd.C kI w' A l.length l ∧ l.length ≤ c
set_option maxHeartbeats 1600000 in
set_option maxRecDepth 100000 in
theorem first_any (n : Nat) (w : World) (hn : n ≤ 1000) : Calls Try.prog 48 #[.int .i64 n] w fun e w' => Told w w.heap.size e w' (firstL n) := by
  go_enter Try.func48, Try.ntmps48
  go_wp2
  go_loopw [3, 4] (fun o i wr => ∃ k : Nat, k ≤ n ∧ i = .int .i64 ((k : Int) + 1) ∧ Aside0 (kI.R 3 wr w.heap.size (fun _ => True) o (firstL k)) ∧ Aside0 (Below w.heap.size w wr)) (fun _ i _ => n + 1 - (intOf i).toNat)
  case atStart => exact ⟨0, by omega, rfl, ⟨Kd.R_nil _ _ _ _ _⟩, ⟨Below.refl _ _⟩⟩
  case round =>
    obtain ⟨k, hk, rfl, HO, HB⟩ := hrel
    by_cases hgo : k < n
    · have HE : Aside0 (firstL (k + 1) = firstL k ++ [(k : Int) + 1]) := ⟨rfl⟩
      have hlen := firstL_len k
      obtain ⟨xs, exs⟩ : ∃ xs, firstL k = xs := ⟨_, rfl⟩
      rw [exs] at HO HE hlen
      clear exs
      have LM : Aside0 (xs.length ≤ 1000) := ⟨by omega⟩
      clear hlen
      go_wp2_with ((with_reducible refine gate_builtin (b := .append) (xs := #[.tmp 10, .tmp 12]) rfl ?_); at_builtin; refine Kd.R_append kI (w0 := w) w.heap.size rfl (.tmp 10) (.tmp 12) 39 3 (.int .i64 0) 8 rfl Try.underlying39 info3 rfl (by decide) (by omega) u3 xs ((k : Int) + 1) [.int .i64 ((k : Int) + 1)] (fun _ => True) (fun _ => False) rfl (by simp [Act.eval]) ?aP (fun _ hk => hk.elim) ?aF ?aO ?aB ?aS ?aL ?_; (case aP => rfl); (case aF => exact fun _ _ => trivial); (case aO => exact HO.out); (case aB => exact HB.out); (case aS => exact HB.out.size); (case aL => have := LM.out; omega); intro v1 w1 ho hb hg hat; have HO1 := Aside0.mk ho; have HB1 := Aside0.mk hb; clear ho hb hg hat)
      go_roundw
      case rel => exact ⟨k + 1, by omega, by go_num, by rw [HE.out]; exact HO1, HB1⟩
      case measure => simp [intOf]; omega
    · obtain rfl : k = n := by omega
      obtain ⟨A, c, e1, e2, e3⟩ := Kd.R_reads HO.out
      subst e1
      have E2 := Aside0.mk e2
      have E3 := Aside0.mk e3
      clear e2 e3
      go_wp2
      go_ret
      exact ⟨A, c, rfl, HB.out, E3.out, E2.out⟩
end Go.Proofs.Ytheafmjdncmpoaa
