/-
  The two functions 'on' (program and reference): so many bits on.
-/
import Derived.Test.YtofdbghklpeamaaRows
import Derived.Test.YtofdbghklpeamaaCrc
import Derived.WalkKit
import Derived.Lib.Hide
namespace Go.Proofs.Ytofdbghklpeamaa
open Go.RowKit

theorem u32xor (a b : Int) (A B : Nat) (ha : a = A) (hb : b = B) (hA : A < 4294967296) (hB : B < 4294967296) : bits .xor .u32 a b = ((A ^^^ B : Nat) : Int) := by
  subst ha; subst hb
  exact u32_xor_nat A B hA hB
theorem retu32 {a b : Int} (h : a = b) : Ending.returned (.int .u32 a) = Ending.returned (.int .u32 b) := by rw [h]
theorem vint {k : IntKind} {a b : Int} (h : a = b) : Value.int k a = Value.int k b := by rw [h]

set_option maxHeartbeats 400000 in
theorem refon_any (x : Nat) (hx : x < 4294967296) (n : Int) (h0 : 0 ≤ n) (hn : n ≤ 9223372036854775807) (w : World) :
    Calls Try.prog 24 #[.int .u32 x, .int .i64 n] w fun e w' => e = .returned (.int .u32 (Crc.on x n.toNat)) ∧ w = w' := by
  go_enter Try.func24, Try.ntmps24
  go_wp2
  go_loop [0, 1] (fun v i => ∃ k : Nat, (k : Int) ≤ n ∧ i = .int .i64 (n - k) ∧ v = .int .u32 (Crc.on x k)) (fun _ i => (intOf i).toNat)
  case atStart => exact ⟨0, by omega, by simp, rfl⟩
  case round =>
    obtain ⟨k, hk, rfl, rfl⟩ := hrel
    have hy := Crc.on_lt k hx
    obtain ⟨y, hyy⟩ : ∃ y, y = Crc.on x k := ⟨_, rfl⟩
    have hs := Crc.on_succ' k x
    rw [← hyy] at hy hs ⊢
    have H := Lib.hid hyy
    have Hs := Lib.hid hs
    clear hyy hs
    by_cases hlt : 0 < n - k
    · by_cases hb : y % 2 = 1
      · have hb' : (((y : Int) % 2) == 1) = true := by simp; omega
        go_wp2
        go_round
        case rel => exact ⟨k + 1, by omega, vint (by omega), vint (by rw [u32xor (↑y / 2) 3988292384 (y / 2) 3988292384 (by omega) rfl (by omega) (by omega), Hs.out]; simp [Crc.step, hb])⟩
        case measure => simp [intOf]; omega
      · have hb' : (((y : Int) % 2) == 1) = false := by simp; omega
        go_wp2
        go_round
        case rel => exact ⟨k + 1, by omega, vint (by omega), vint (by rw [Hs.out]; simp [Crc.step, hb])⟩
        case measure => simp [intOf]; omega
    · go_wp2
      go_ret
      exact ⟨retu32 (by rw [H.out]; congr 2; omega), rfl⟩
set_option maxHeartbeats 400000 in
theorem on_any (x : Nat) (hx : x < 4294967296) (n : Int) (h0 : 0 ≤ n) (hn : n ≤ 9223372036854775807) (w : World) :
    Calls Try.prog 25 #[.int .u32 x, .int .i64 n] w fun e w' => e = .returned (.int .u32 (Crc.on x n.toNat)) ∧ w = w' := by
  go_enter Try.func25, Try.ntmps25
  go_wp2
  go_loop [0, 7] (fun v i => ∃ k : Nat, (k : Int) ≤ n ∧ i = .int .i64 k ∧ v = .int .u32 (Crc.on x k)) (fun _ i => (n - intOf i).toNat)
  case atStart => exact ⟨0, by omega, by simp, rfl⟩
  case round =>
    obtain ⟨k, hk, rfl, rfl⟩ := hrel
    have hy := Crc.on_lt k hx
    obtain ⟨y, hyy⟩ : ∃ y, y = Crc.on x k := ⟨_, rfl⟩
    have hs := Crc.on_succ' k x
    rw [← hyy] at hy hs ⊢
    have H := Lib.hid hyy
    have Hs := Lib.hid hs
    clear hyy hs
    have hand : bits BinOp.and IntKind.u32 (y : Int) 1 = ((y % 2 : Nat) : Int) := by rw [← Nat.and_one_is_mod]; exact u32_and_nat y 1 hy (by omega)
    by_cases hlt : (k : Int) < n
    · by_cases hb : y % 2 = 1
      · have hb' : (bits BinOp.and IntKind.u32 (y : Int) 1 == 1) = true := by rw [hand, hb]; rfl
        clear hand
        go_wp2
        go_round
        case rel => exact ⟨k + 1, by omega, vint (by omega), vint (by rw [u32xor (↑y / 2) 3988292384 (y / 2) 3988292384 (by omega) rfl (by omega) (by omega), Hs.out]; simp [Crc.step, hb])⟩
        case measure => simp [intOf]; omega
      · have hb' : (bits BinOp.and IntKind.u32 (y : Int) 1 == 1) = false := by rw [hand]; have : y % 2 = 0 := by omega
                                                                               rw [this]; rfl
        clear hand
        go_wp2
        go_round
        case rel => exact ⟨k + 1, by omega, vint (by omega), vint (by rw [Hs.out]; simp [Crc.step, hb])⟩
        case measure => simp [intOf]; omega
    · clear hand
      go_wp2
      go_ret
      exact ⟨retu32 (by rw [H.out]; congr 2; omega), rfl⟩
end Go.Proofs.Ytofdbghklpeamaa
