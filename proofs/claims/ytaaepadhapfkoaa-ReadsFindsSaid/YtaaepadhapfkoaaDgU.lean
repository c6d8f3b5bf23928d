/-
  Digest: a word turned.
-/
import Derived.Test.YtaaepadhapfkoaaProg
import Derived.Test.YtaaepadhapfkoaaSha
import Derived.WalkKit
import Derived.Lib.Hide
import Derived.Laws.BitsAllLaws
namespace Go.Proofs.Ytaaepadhapfkoaa
set_option linter.unusedSimpArgs false
set_option linter.unusedVariables false
open Go.RowKit

theorem retu32 {a b : Int} (h : a = b) : Ending.returned (.int .u32 a) = Ending.returned (.int .u32 b) := by rw [h]
theorem vint {k : IntKind} {a b : Int} (h : a = b) : Value.int k a = Value.int k b := by rw [h]
theorem wrapu64 (a : Int) : IntKind.u64.wrap a = a % 18446744073709551616 := by
  simp only [IntKind.wrap, IntKind.bits, IntKind.signed]
  rfl
theorem neg31 (n : Nat) (h0 : 0 < n) (h1 : n < 32) : bits .and .u64 (IntKind.u64.wrap (-(n : Int))) 31 = ((32 - n : Nat) : Int) := by
  have e : IntKind.u64.wrap (-(n : Int)) = ((18446744073709551616 - n : Nat) : Int) := by rw [wrapu64]; omega
  rw [e]
  have := u64_and_nat (18446744073709551616 - n) 31 (by omega) (by omega)
  rw [show ((31 : Nat) : Int) = 31 from rfl] at this
  rw [this]
  congr 1
  have h := Nat.and_two_pow_sub_one_eq_mod (18446744073709551616 - n) 5
  simp only [show (2 : Nat) ^ 5 - 1 = 31 from rfl, show (2 : Nat) ^ 5 = 32 from rfl] at h
  rw [h]
  omega
theorem u32or (a b : Int) (A B : Nat) (ha : a = A) (hb : b = B) (hA : A < 4294967296) (hB : B < 4294967296) : bits .or .u32 a b = ((A ||| B : Nat) : Int) := by
  subst ha; subst hb
  exact u32_or_nat A B hA hB
theorem u32xor (a b : Int) (A B : Nat) (ha : a = A) (hb : b = B) (hA : A < 4294967296) (hB : B < 4294967296) : bits .xor .u32 a b = ((A ^^^ B : Nat) : Int) := by
  subst ha; subst hb
  exact u32_xor_nat A B hA hB
theorem u32and (a b : Int) (A B : Nat) (ha : a = A) (hb : b = B) (hA : A < 4294967296) (hB : B < 4294967296) : bits .and .u32 a b = ((A &&& B : Nat) : Int) := by
  subst ha; subst hb
  exact u32_and_nat A B hA hB
set_option maxHeartbeats 400000 in
theorem rotl_any (x n : Nat) (hx : x < 4294967296) (h0 : 0 < n) (h1 : n < 32) (w : World) :
    Calls Try.prog 124 #[.int .u32 x, .int .i64 (-(n : Int))] w fun e w' => e = .returned (.int .u32 (Sha.rot x n)) ∧ w = w' := by
  have hb := neg31 n h0 h1
  obtain ⟨m, hm⟩ : ∃ m, 32 - n = m := ⟨_, rfl⟩
  have hm1 : m ≤ 31 := by omega
  have hm0 : 1 ≤ m := by omega
  rw [hm] at hb
  obtain ⟨r, hr⟩ : ∃ r, Sha.rot x n = r := ⟨_, rfl⟩
  rw [hr]
  have HR := Lib.hid hr
  have HM := Lib.hid hm
  clear hm hr
  go_enter Try.func124, Try.ntmps124
  go_wp2
  go_ret
  refine ⟨retu32 ?_, rfl⟩
  have e := HM.out
  have e2 : 32 - m = n := by omega
  rw [e2, ← HR.out, Sha.rot, e]
  exact u32or _ _ (x * 2 ^ m % 4294967296) (x / 2 ^ n) (by simp) (by simp) (Nat.mod_lt _ (by omega)) (Nat.lt_of_le_of_lt (Nat.div_le_self _ _) hx)
set_option maxHeartbeats 400000 in
theorem turned_any (x n : Nat) (hx : x < 4294967296) (h0 : 0 < n) (h1 : n < 32) (w : World) :
    Calls Try.prog 105 #[.int .u32 x, .int .i64 n] w fun e w' => e = .returned (.int .u32 (Sha.rot x n)) ∧ w = w' := by
  have h0' : (0 : Int) < (n : Int) := by omega
  have h1' : (n : Int) < 32 := by omega
  go_enter Try.func105, Try.ntmps105
  go_wp2_with (go_at_call 124; (with_reducible refine (rotl_any x n hx h0 h1 _).mono ?_); rintro e w' ⟨rfl, rfl⟩)
  go_ret
  exact ⟨rfl, rfl⟩
/-- a word turned by a number that is written out -/
theorem turned_at (x : Int) (X : Nat) (e : x = X) (hx : X < 4294967296) (n : Int) (N : Nat) (hn : n = N) (h0 : 0 < N) (h1 : N < 32) (w : World) :
    Calls Try.prog 105 #[.int .u32 x, .int .i64 n] w fun e w' => e = .returned (.int .u32 (Sha.rot X N)) ∧ w = w' := by
  subst e; subst hn
  exact turned_any X N hx h0 h1 w
theorem turned_s (x : Int) (X : Nat) (e : x = X) (hx : X < 4294967296) (n : Int) (N : Nat) (hn : n = N) (h0 : 0 < N) (h1 : N < 32) (w : World) :
    Calls Try.prog 105 #[.int .u32 x, .int .i64 n] w fun e w' => e = .returned (.int .u32 (Sha.rot X N)) ∧ w' = w :=
  (turned_at x X e hx n N hn h0 h1 w).mono fun _ _ ⟨a, b⟩ => ⟨a, b.symm⟩
end Go.Proofs.Ytaaepadhapfkoaa
