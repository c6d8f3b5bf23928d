/-
  Quorum: of how many slots something is so.
-/
import Derived.Test.YtheafmjdncmpoaaQuoS
namespace Go.Proofs.Ytheafmjdncmpoaa
set_option linter.unusedSimpArgs false
set_option linter.unusedVariables false
open Go.RowKit Go.Proofs.YtheafmjdncmpoaaW.PrintWords

def countN (P : Nat → Bool) : Nat → Nat
  | 0 => 0
  | n + 1 => countN P n + (if P n then 1 else 0)
theorem countN_le (P : Nat → Bool) : ∀ n, countN P n ≤ n
  | 0 => Nat.le_refl _
  | n + 1 => by have := countN_le P n; unfold countN; split <;> omega
set_option maxHeartbeats 1600000 in
set_option maxRecDepth 100000 in
theorem count_row (f : FuncId) (fn : Func) (cap : Array Value) (g n c : Nat) (P : Nat → Bool) (w : World) (hn : n ≤ 9223372036854775806) (hfn : Try.prog.funcs[f]? = some fn) (hname : (fn.name == "runtime.NumGoroutine") = false) (hbody : fn.body.isSome = true)
    (H : ∀ w', Below w.heap.size w w' → ∀ i, i < n → Calls Try.prog f (#[.pointer (some ⟨g, i * 3, none⟩)] ++ cap) w' fun e u => e = .returned (.bool (P i)) ∧ Below w'.heap.size w' u) :
    Calls Try.prog 78 #[.slice (some ⟨g, 0, none⟩) n c, .func (.func f) #[] cap] w fun e w' => e = .returned (.int .i64 (countN P n)) ∧ Below w.heap.size w w' := by
  have HH := Lib.hid H
  clear H
  go_enter Try.func78, Try.ntmps78
  go_wp2
  go_loopw [5, 9] (fun v i wr => ∃ k : Nat, k ≤ n ∧ i = .int .i64 k ∧ v = .int .i64 (countN P k) ∧ Aside0 (Below w.heap.size w wr)) (fun _ i _ => n - (intOf i).toNat)
  case atStart => exact ⟨0, by omega, rfl, rfl, ⟨Below.refl _ _⟩⟩
  case round =>
    obtain ⟨k, hk, rfl, rfl, HB⟩ := hrel
    have hcl := countN_le P k
    by_cases hgo : k < n
    · have HC := Aside0.mk (HH wr HB.out k hgo)
      clear HH
      have HK : Aside0 (countN P (k + 1) = countN P k + (if P k then 1 else 0)) := ⟨rfl⟩
      obtain ⟨b, hb⟩ : ∃ b, P k = b := ⟨_, rfl⟩
      rw [hb] at HC HK
      clear hb
      obtain ⟨m, hm⟩ : ∃ m, countN P k = m := ⟨_, rfl⟩
      rw [hm] at HK hcl ⊢
      clear hm
      cases b with
      | true =>
        go_wp2_with ((with_reducible refine gate_val (n := 12) rfl ?_); refine goesC_ (some 16) rfl rfl hfn hname hbody #[.pointer (some ⟨g, k * 3, none⟩)] rfl (by simp [Act.eval, add_plain]) rfl ?_; refine HC.out.mono ?_; rintro e w1 ⟨rfl, hb⟩; refine ⟨_, rfl, ?_⟩; have HB1 := Aside0.mk (below_step HB.out hb); clear hb)
        go_roundw
        case rel => exact ⟨k + 1, by omega, by go_num, by rw [HK.out]; go_num, HB1⟩
        case measure => simp [intOf]; omega
      | false =>
        go_wp2_with ((with_reducible refine gate_val (n := 12) rfl ?_); refine goesC_ (some 16) rfl rfl hfn hname hbody #[.pointer (some ⟨g, k * 3, none⟩)] rfl (by simp [Act.eval, add_plain]) rfl ?_; refine HC.out.mono ?_; rintro e w1 ⟨rfl, hb⟩; refine ⟨_, rfl, ?_⟩; have HB1 := Aside0.mk (below_step HB.out hb); clear hb)
        go_roundw
        case rel => exact ⟨k + 1, by omega, by go_num, by rw [HK.out]; rfl, HB1⟩
        case measure => simp [intOf]; omega
    · obtain rfl : k = n := by omega
      go_wp2
      go_ret
      exact ⟨rfl, HB.out⟩
theorem count_nil (fv : Value) (w : World) : Calls Try.prog 78 #[.slice none 0 0, fv] w fun e w' => e = .returned (.int .i64 0) ∧ Below w.heap.size w w' := by
  go_enter Try.func78, Try.ntmps78
  go_wp2
  go_loopw [5, 9] (fun v i wr => i = .int .i64 0 ∧ v = .int .i64 0 ∧ Aside0 (Below w.heap.size w wr)) (fun _ i _ => 0 - (intOf i).toNat)
  case atStart => exact ⟨rfl, rfl, ⟨Below.refl _ _⟩⟩
  case round =>
    obtain ⟨rfl, rfl, HB⟩ := hrel
    go_wp2
    go_ret
    exact ⟨rfl, HB.out⟩
theorem find_nil (fv : Value) (w : World) : Calls Try.prog 67 #[.slice none 0 0, fv] w fun e w' => e = .returned (.pointer none) ∧ Below w.heap.size w w' := by
  go_enter Try.func67, Try.ntmps67
  go_wp2
  go_loopw [8] (fun i wr => i = .int .i64 0 ∧ Aside0 (Below w.heap.size w wr)) (fun i _ => 0 - (intOf i).toNat)
  case atStart => exact ⟨rfl, ⟨Below.refl _ _⟩⟩
  case round =>
    obtain ⟨rfl, HB⟩ := hrel
    go_wp2
    go_ret
    exact ⟨rfl, HB.out⟩
end Go.Proofs.Ytheafmjdncmpoaa
