/-
  The walks of the laws CrcLong, CrcJoins, CrcKnown.
-/
import Derived.Test.YtofdbghklpeamaaAwake
namespace Go.Proofs.Ytofdbghklpeamaa
open Go.RowKit

theorem bnext {w w1 w2 : World} (h : Below w.heap.size w w1) (k : Below w1.heap.size w1 w2) : Below w.heap.size w w2 := h.trans (k.mono h.size)
theorem wf_u32 {a : Int} (h : (Lit.int .u32 a).wf = true) : ∃ A : Nat, a = A ∧ A < 4294967296 := by
  have hx : 0 ≤ a ∧ a ≤ 4294967295 := by simpa [Lit.wf, IntKind.min, IntKind.max, IntKind.signed, IntKind.bits] using h
  obtain ⟨A, rfl⟩ := Int.eq_ofNat_of_zero_le hx.1
  exact ⟨A, rfl, by omega⟩
theorem join_int (a b n : Int) (A B N : Nat) (ea : a = A) (eb : b = B) (en : n = N) (ha : A < 4294967296) (hb : B < 4294967296) (hn : N ≤ 2147483647) (w : World) :
    Calls Try.prog 16 #[.int .u32 a, .int .u32 b, .int .i64 n] w fun e w' => e = .returned (.tuple #[.int .u32 (Crc.join A B N), .int .i64 0]) ∧ Below w.heap.size w w' := by
  subst ea; subst eb; subst en; exact join_yes A B ha hb N hn w

set_option maxHeartbeats 800000 in
theorem crcLong_walk (a b c m n : Int) (w : World) (wa : (Lit.int .u32 a).wf = true) (wb : (Lit.int .u32 b).wf = true) (wc : (Lit.int .u32 c).wf = true) (_wm : (Lit.int .i64 m).wf = true) (_wn : (Lit.int .i64 n).wf = true) :
    Calls Try.prog 8 #[.int .u32 a, .int .u32 b, .int .u32 c, .int .i64 m, .int .i64 n] w fun e w' => e = .returned (.bool true) ∧ Below w.heap.size w w' := by
  obtain ⟨A, rfl, hA⟩ := wf_u32 wa
  obtain ⟨B, rfl, hB⟩ := wf_u32 wb
  obtain ⟨C, rfl, hC⟩ := wf_u32 wc
  clear wa wb wc
  obtain ⟨M, eM⟩ : ∃ M : Nat, m % 1073741824 = M := Int.eq_ofNat_of_zero_le (by omega)
  obtain ⟨N, eN⟩ : ∃ N : Nat, n % 1073741824 = N := Int.eq_ofNat_of_zero_le (by omega)
  have hM : M ≤ 1073741823 := by omega
  have hN : N ≤ 1073741823 := by omega
  have p1 := pick_any m 1073741824 (by omega) (by omega)
  have p2 := pick_any n 1073741824 (by omega) (by omega)
  rw [eM] at p1
  rw [eN] at p2
  have j1 := join_int A B M A B M rfl rfl rfl hA hB (by omega)
  have l1 := Crc.join_lt (n := M) hA hB
  have j3 := join_int B C N B C N rfl rfl rfl hB hC (by omega)
  have l3 := Crc.join_lt (n := N) hB hC
  have ej := Crc.join_join A B C M N
  generalize Crc.join A B M = X at *
  generalize Crc.join B C N = P at *
  have j2 := join_int X C N X C N rfl rfl rfl l1 hC (by omega)
  have j4 := join_int A P ((M : Int) + N) A P (M + N) rfl rfl (by omega) hA l3 (by omega)
  rw [← ej] at j4
  generalize Crc.join X C N = Y at *
  have P1 := Lib.hid p1
  have P2 := Lib.hid p2
  have J1 := Lib.hid j1
  have J2 := Lib.hid j2
  have J3 := Lib.hid j3
  have J4 := Lib.hid j4
  clear p1 p2 j1 j2 j3 j4 ej eM eN
  go_enter Try.func8, Try.ntmps8
  go_wp2_with (first
    | (go_at_call 9; (with_reducible refine (awake_any _).mono ?_); rintro e w1 ⟨rfl, hb1⟩; have Hb1 := Lib.hid hb1; clear hb1)
    | (go_at_call 19; (with_reducible refine (P1.out _).mono ?_); rintro e w' ⟨rfl, rfl⟩)
    | (go_at_call 19; (with_reducible refine (P2.out _).mono ?_); rintro e w' ⟨rfl, rfl⟩)
    | (go_at_call 16; (with_reducible refine (J1.out _).mono ?_); rintro e w2 ⟨rfl, hb1⟩; have Hb2 := Lib.hid hb1; clear hb1)
    | (go_at_call 16; (with_reducible refine (J2.out _).mono ?_); rintro e w3 ⟨rfl, hb1⟩; have Hb3 := Lib.hid hb1; clear hb1)
    | (go_at_call 16; (with_reducible refine (J3.out _).mono ?_); rintro e w4 ⟨rfl, hb1⟩; have Hb4 := Lib.hid hb1; clear hb1)
    | (go_at_call 16; (with_reducible refine (J4.out _).mono ?_); rintro e w5 ⟨rfl, hb1⟩; have Hb5 := Lib.hid hb1; clear hb1))
  go_ret
  exact ⟨by simp, bnext (bnext (bnext (bnext Hb1.out Hb2.out) Hb3.out) Hb4.out) Hb5.out⟩

set_option maxHeartbeats 800000 in
theorem crcJoins_walk (a b n : Int) (w : World) (wa : (Lit.int .u32 a).wf = true) (wb : (Lit.int .u32 b).wf = true) (_wn : (Lit.int .i64 n).wf = true) :
    Calls Try.prog 4 #[.int .u32 a, .int .u32 b, .int .i64 n] w fun e w' => e = .returned (.bool true) ∧ Below w.heap.size w w' := by
  obtain ⟨A, rfl, hA⟩ := wf_u32 wa
  obtain ⟨B, rfl, hB⟩ := wf_u32 wb
  clear wa wb
  by_cases h1 : 5000 < n ∧ n ≤ 2147483647
  · obtain ⟨h1, h2⟩ := h1
    go_enter Try.func4, Try.ntmps4
    go_wp2_with (go_at_call 9; (with_reducible refine (awake_any _).mono ?_); rintro e w1 ⟨rfl, hb1⟩; have Hb1 := Lib.hid hb1; clear hb1)
    go_ret
    exact ⟨rfl, Hb1.out⟩
  · by_cases h2 : n < 0 ∨ 2147483647 < n
    · have j1 := join_no A B n h2
      have j2 := refjoin_no A B n h2
      have J1 := Lib.hid j1
      have J2 := Lib.hid j2
      clear j1 j2
      by_cases h3 : 5000 < n
      · have h4 : ¬ n ≤ 2147483647 := by omega
        clear h1 h2
        go_enter Try.func4, Try.ntmps4
        go_wp2_with (first
          | (go_at_call 9; (with_reducible refine (awake_any _).mono ?_); rintro e w1 ⟨rfl, hb1⟩; have Hb1 := Lib.hid hb1; clear hb1)
          | (go_at_call 16; (with_reducible refine (J1.out _).mono ?_); rintro e w' ⟨rfl, rfl⟩)
          | (go_at_call 17; (with_reducible refine (J2.out _).mono ?_); rintro e w' ⟨rfl, rfl⟩))
        go_ret
        exact ⟨rfl, Hb1.out⟩
      · clear h1 h2
        go_enter Try.func4, Try.ntmps4
        go_wp2_with (first
          | (go_at_call 9; (with_reducible refine (awake_any _).mono ?_); rintro e w1 ⟨rfl, hb1⟩; have Hb1 := Lib.hid hb1; clear hb1)
          | (go_at_call 16; (with_reducible refine (J1.out _).mono ?_); rintro e w' ⟨rfl, rfl⟩)
          | (go_at_call 17; (with_reducible refine (J2.out _).mono ?_); rintro e w' ⟨rfl, rfl⟩))
        go_ret
        exact ⟨rfl, Hb1.out⟩
    · obtain ⟨N, rfl⟩ := Int.eq_ofNat_of_zero_le (show 0 ≤ n by omega)
      have j1 := join_yes A B hA hB N (by omega)
      have j2 := refjoin_yes A B hA hB N (by omega)
      generalize Crc.join A B N = X at j1 j2
      have J1 := Lib.hid j1
      have J2 := Lib.hid j2
      have h3 : ¬ 5000 < (N : Int) := by omega
      clear j1 j2 h1 h2
      go_enter Try.func4, Try.ntmps4
      go_wp2_with (first
        | (go_at_call 9; (with_reducible refine (awake_any _).mono ?_); rintro e w1 ⟨rfl, hb1⟩; have Hb1 := Lib.hid hb1; clear hb1)
        | (go_at_call 16; (with_reducible refine (J1.out _).mono ?_); rintro e w2 ⟨rfl, hb1⟩; have Hb2 := Lib.hid hb1; clear hb1)
        | (go_at_call 17; (with_reducible refine (J2.out _).mono ?_); rintro e w' ⟨rfl, rfl⟩))
      go_ret
      exact ⟨by simp, bnext Hb2.out Hb1.out⟩

theorem k1234 : Crc.crc 0 [49, 50, 51, 52] = 2615402659 := by decide +kernel
theorem k56789 : Crc.crc 0 [53, 54, 55, 56, 57] = 320708720 := by decide +kernel
theorem k9 : Crc.crc 2615402659 [53, 54, 55, 56, 57] = 3421780262 := by decide +kernel
theorem sum4 (w : World) (t : TypeId) (fr : Nat × Nat) :
    Calls Try.prog 11 #[.slice (some ⟨w.heap.size, 0, none⟩) 4 4] (w.alloc (.cells #[.int .u8 49, .int .u8 50, .int .u8 51, .int .u8 52] t fr)) fun e w' => e = .returned (.int .u32 2615402659) ∧ Below w.heap.size w w' :=
  sum_row [49, 50, 51, 52] 2615402659 4 (by decide) k1234 rfl (by omega) _ t fr _ w rfl
theorem sum5 (w : World) (t : TypeId) (fr : Nat × Nat) :
    Calls Try.prog 11 #[.slice (some ⟨w.heap.size, 0, none⟩) 5 5] (w.alloc (.cells #[.int .u8 53, .int .u8 54, .int .u8 55, .int .u8 56, .int .u8 57] t fr)) fun e w' => e = .returned (.int .u32 320708720) ∧ Below w.heap.size w w' :=
  sum_row [53, 54, 55, 56, 57] 320708720 5 (by decide) k56789 rfl (by omega) _ t fr _ w rfl
theorem sum0 (w : World) (t : TypeId) (fr : Nat × Nat) :
    Calls Try.prog 11 #[.slice (some ⟨w.heap.size, 0, none⟩) 1 1] (w.alloc (.cells #[.int .u8 0] t fr)) fun e w' => e = .returned (.int .u32 3523407757) ∧ Below w.heap.size w w' :=
  sum_row [0] 3523407757 1 (by decide) Crc.known_0 rfl (by omega) _ t fr _ w rfl
theorem sumnil (w : World) : Calls Try.prog 11 #[.slice none 0 0] w fun e w' => e = .returned (.int .u32 0) ∧ Below w.heap.size w w' :=
  (sum_any none [] 0 w ⟨by simp, by simp⟩ (by simp)).mono fun e w' ⟨he, hb⟩ => ⟨by rw [he, Crc.known_nil]; rfl, hb⟩
theorem more5 (w : World) (t : TypeId) (fr : Nat × Nat) :
    Calls Try.prog 13 #[.int .u32 2615402659, .slice (some ⟨w.heap.size, 0, none⟩) 5 5] (w.alloc (.cells #[.int .u8 53, .int .u8 54, .int .u8 55, .int .u8 56, .int .u8 57] t fr)) fun e w' => e = .returned (.int .u32 3421780262) ∧ Below w.heap.size w w' := by
  refine (more_int 2615402659 2615402659 rfl (by omega) _ [53, 54, 55, 56, 57] 5 _ (reads_row w _ t fr _ (by decide) rfl) (by decide)).mono fun e w' ⟨he, hb⟩ => ⟨by rw [he, k9]; rfl, ?_⟩
  exact ((Below.refl _ _).alloc (Nat.le_refl _) _).trans (hb.mono (by simp))
theorem jn (w : World) : Calls Try.prog 16 #[.int .u32 0, .int .u32 0, .int .i64 (-1)] w fun e w' => e = .returned (.tuple #[.int .u32 0, .int .i64 2]) ∧ w = w' := join_no 0 0 (-1) (by omega) w
theorem j5 (w : World) : Calls Try.prog 18 #[.int .u32 2615402659, .int .u32 320708720, .int .i64 5, .int .u32 3421780262] w fun e w' => e = .returned (.bool true) ∧ Below w.heap.size w w' :=
  joins_int _ _ _ _ 2615402659 320708720 5 3421780262 rfl rfl rfl rfl (by omega) (by omega) (by omega) (by decide +kernel) w
set_option maxHeartbeats 800000 in
theorem crcKnown_walk (w : World) : Calls Try.prog 5 #[] w fun e w' => e = .returned (.bool true) ∧ Below w.heap.size w w' := by
  have kc := fun (w : World) (C : Array Value) (n c : Nat) => Lib.run_convert_bytes_const (P := Try.prog) w 23 5 C n c Try.underlying23 Try.underlying5
  go_enter Try.func5, Try.ntmps5
  go_wp2_with (first
    | (go_at_call 16; (with_reducible refine (jn _).mono ?_); rintro e w' ⟨rfl, rfl⟩)
    | (go_at_call 11; (with_reducible refine (sum4 _ _ _).mono ?_); rintro e w1 ⟨rfl, hb1⟩; have Hb1 := Lib.hid hb1; clear hb1)
    | (go_at_call 11; (with_reducible refine (sum5 _ _ _).mono ?_); rintro e w2 ⟨rfl, hb1⟩; have Hb2 := Lib.hid hb1; clear hb1)
    | (go_at_call 9; (with_reducible refine (awake_any _).mono ?_); rintro e w3 ⟨rfl, hb1⟩; have Hb3 := Lib.hid hb1; clear hb1)
    | (go_at_call 11; (with_reducible refine (sumnil _).mono ?_); rintro e w4 ⟨rfl, hb1⟩; have Hb4 := Lib.hid hb1; clear hb1)
    | (go_at_call 11; (with_reducible refine (sum0 _ _ _).mono ?_); rintro e w5 ⟨rfl, hb1⟩; have Hb5 := Lib.hid hb1; clear hb1)
    | (go_at_call 13; (with_reducible refine (more5 _ _ _).mono ?_); rintro e w6 ⟨rfl, hb1⟩; have Hb6 := Lib.hid hb1; clear hb1)
    | (go_at_call 18; (with_reducible refine (j5 _).mono ?_); rintro e w7 ⟨rfl, hb1⟩; have Hb7 := Lib.hid hb1; clear hb1))
  go_ret
  exact ⟨rfl, bnext (bnext (bnext (bnext (bnext (bnext Hb1.out Hb2.out) Hb3.out) Hb4.out) Hb5.out) Hb6.out) Hb7.out⟩
end Go.Proofs.Ytofdbghklpeamaa
