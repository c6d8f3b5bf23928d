/-
  The sums of whole texts, 'joins', 'Pick' and the examples that every law asks ('awake').
-/
import Derived.Test.YtofdbghklpeamaaMore
import Derived.Test.YtofdbghklpeamaaJoin
import Derived.Lib.SlBytesConst
namespace Go.Proofs.Ytofdbghklpeamaa
open Go.RowKit

theorem more_int (s : Int) (S : Nat) (h : s = S) (hs : S < 4294967296) (a : Option Addr) (l : List Nat) (cap : Nat) (w : World) (hr : Reads w a l) (hlen : l.length ≤ 140737488351232) :
    Calls Try.prog 13 #[.int .u32 s, .slice a l.length cap] w fun e w' => e = .returned (.int .u32 (Crc.crc S l)) ∧ Below w.heap.size w w' := by
  subst h; exact more_any S hs a l cap w hr hlen
theorem refmore_int (s : Int) (S : Nat) (h : s = S) (hs : S < 4294967296) (a : Option Addr) (l : List Nat) (cap : Nat) (w : World) (hr : Reads w a l) (hlen : l.length ≤ 140737488351232) :
    Calls Try.prog 14 #[.int .u32 s, .slice a l.length cap] w fun e w' => e = .returned (.int .u32 (Crc.crc S l)) ∧ w = w' := by
  subst h; exact refmore_any S hs a l cap w hr hlen
set_option maxHeartbeats 400000 in
theorem sum_any (a : Option Addr) (l : List Nat) (cap : Nat) (w : World) (hr : Reads w a l) (hlen : l.length ≤ 140737488351232) :
    Calls Try.prog 11 #[.slice a l.length cap] w fun e w' => e = .returned (.int .u32 (Crc.crc 0 l)) ∧ Below w.heap.size w w' := by
  have Hr := Lib.hid hr
  clear hr
  go_enter Try.func11, Try.ntmps11
  go_wp2_with (go_at_call 13; (with_reducible refine (more_int 0 0 rfl (by omega) a l cap _ Hr.out hlen).mono ?_); rintro e w1 ⟨rfl, hb1⟩; have Hb1 := Lib.hid hb1; clear hb1)
  go_ret
  exact ⟨rfl, Hb1.out⟩
set_option maxHeartbeats 400000 in
theorem refsum_any (a : Option Addr) (l : List Nat) (cap : Nat) (w : World) (hr : Reads w a l) (hlen : l.length ≤ 140737488351232) :
    Calls Try.prog 12 #[.slice a l.length cap] w fun e w' => e = .returned (.int .u32 (Crc.crc 0 l)) ∧ w = w' := by
  have Hr := Lib.hid hr
  clear hr
  go_enter Try.func12, Try.ntmps12
  go_wp2_with (go_at_call 14; (with_reducible refine (refmore_int 0 0 rfl (by omega) a l cap _ Hr.out hlen).mono ?_); rintro e w1 ⟨rfl, rfl⟩)
  go_ret
  exact ⟨rfl, rfl⟩
/-- a literal's row reads as its numbers -/
theorem reads_row (w : World) (C : Array Value) (t : TypeId) (fr : Nat × Nat) (l : List Nat) (hl : ∀ c ∈ l, c < 256) (hC : C = (l.map fun c : Nat => Value.int .u8 c).toArray) :
    Reads (w.alloc (.cells C t fr)) (some ⟨w.heap.size, 0, none⟩) l := by
  refine ⟨hl, fun i hi => ⟨w.heap.size, 0, rfl, by simp, ?_⟩⟩
  rw [cell_of_row _ w.heap.size (0 + i) C t fr (heap_alloc_new _ _), hC]
  simp [List.getD, hi]
theorem sum_row (l : List Nat) (v n : Nat) (hl : ∀ c ∈ l, c < 256) (hv : Crc.crc 0 l = v) (hn : l.length = n) (h5 : n ≤ 1000) (C : Array Value) (t : TypeId) (fr : Nat × Nat) (cap : Nat) (w : World)
    (hC : C = (l.map fun c : Nat => Value.int .u8 c).toArray) :
    Calls Try.prog 11 #[.slice (some ⟨w.heap.size, 0, none⟩) n cap] (w.alloc (.cells C t fr)) fun e w' => e = .returned (.int .u32 v) ∧ Below w.heap.size w w' := by
  subst hn
  refine (sum_any _ l cap _ (reads_row w C t fr l hl hC) (by omega)).mono fun e w' ⟨he, hb⟩ => ⟨by rw [he, hv], ?_⟩
  exact ((Below.refl _ _).alloc (Nat.le_refl _) _).trans (hb.mono (by simp))

set_option maxHeartbeats 400000 in
theorem joins_any (a b n v : Nat) (ha : a < 4294967296) (hb : b < 4294967296) (hn : n ≤ 2147483647) (hv : Crc.join a b n = v) (w : World) :
    Calls Try.prog 18 #[.int .u32 a, .int .u32 b, .int .i64 n, .int .u32 v] w fun e w' => e = .returned (.bool true) ∧ Below w.heap.size w w' := by
  have hj := join_yes a b ha hb n hn
  rw [hv] at hj
  have Hj := Lib.hid hj
  clear hj hv
  go_enter Try.func18, Try.ntmps18
  go_wp2_with (go_at_call 16; (with_reducible refine (Hj.out _).mono ?_); rintro e w1 ⟨rfl, hb1⟩; have Hb1 := Lib.hid hb1; clear hb1)
  go_ret
  exact ⟨by simp, Hb1.out⟩
theorem joins_int (a b n v : Int) (A B N V : Nat) (ea : a = A) (eb : b = B) (en : n = N) (ev : v = V) (ha : A < 4294967296) (hb : B < 4294967296) (hn : N ≤ 2147483647) (hv : Crc.join A B N = V) (w : World) :
    Calls Try.prog 18 #[.int .u32 a, .int .u32 b, .int .i64 n, .int .u32 v] w fun e w' => e = .returned (.bool true) ∧ Below w.heap.size w w' := by
  subst ea; subst eb; subst en; subst ev; exact joins_any A B N V ha hb hn hv w
theorem sum9 (w : World) (t : TypeId) (fr : Nat × Nat) :
    Calls Try.prog 11 #[.slice (some ⟨w.heap.size, 0, none⟩) 9 9] (w.alloc (.cells #[.int .u8 49, .int .u8 50, .int .u8 51, .int .u8 52, .int .u8 53, .int .u8 54, .int .u8 55, .int .u8 56, .int .u8 57] t fr))
      fun e w' => e = .returned (.int .u32 3421780262) ∧ Below w.heap.size w w' :=
  sum_row [49, 50, 51, 52, 53, 54, 55, 56, 57] 3421780262 9 (by decide) Crc.known_9 rfl (by omega) _ t fr _ w rfl
theorem sum1 (w : World) (t : TypeId) (fr : Nat × Nat) :
    Calls Try.prog 11 #[.slice (some ⟨w.heap.size, 0, none⟩) 1 1] (w.alloc (.cells #[.int .u8 97] t fr)) fun e w' => e = .returned (.int .u32 3904355907) ∧ Below w.heap.size w w' :=
  sum_row [97] 3904355907 1 (by decide) Crc.known_a rfl (by omega) _ t fr _ w rfl
set_option maxHeartbeats 400000 in
theorem awake_any (w : World) : Calls Try.prog 9 #[] w fun e w' => e = .returned (.bool true) ∧ Below w.heap.size w w' := by
  have kc := fun (w : World) (C : Array Value) (n c : Nat) => Lib.run_convert_bytes_const (P := Try.prog) w 23 5 C n c Try.underlying23 Try.underlying5
  go_enter Try.func9, Try.ntmps9
  go_wp2_with (first
    | (go_at_call 11; (with_reducible refine (sum9 _ _ _).mono ?_); rintro e w1 ⟨rfl, hb1⟩; have Hb1 := Lib.hid hb1; clear hb1)
    | (go_at_call 11; (with_reducible refine (sum1 _ _ _).mono ?_); rintro e w2 ⟨rfl, hb2⟩; have Hb2 := Lib.hid hb2; clear hb2)
    | (go_at_call 18; (with_reducible refine (joins_int 7 9 0 14 7 9 0 14 rfl rfl rfl rfl (by omega) (by omega) (by omega) (by decide) _).mono ?_); rintro e w3 ⟨rfl, hb3⟩; have Hb3 := Lib.hid hb3; clear hb3))
  go_ret
  exact ⟨rfl, (Hb1.out.trans (Hb2.out.mono Hb1.out.size)).trans (Hb3.out.mono (Nat.le_trans Hb1.out.size Hb2.out.size))⟩

/-- what 'Pick' tells of a number above nought: the remainder that is not negative -/
theorem tmod_pos (x n : Int) (h : ¬ x.tmod n < 0) : x.tmod n = x % n := by
  rw [Int.emod_eq_tmod]
  by_cases hx : 0 ≤ x
  · rw [if_pos (Or.inl hx)]; omega
  · by_cases hd : n ∣ x
    · rw [if_pos (Or.inr hd)]; omega
    · exfalso
      have h1 : x.tmod n ≤ 0 := by
        have := Int.tmod_nonneg (a := -x) n (by omega)
        rw [Int.neg_tmod] at this; omega
      have h2 : x.tmod n = 0 := by omega
      exact hd (Int.dvd_of_tmod_eq_zero h2)
theorem tmod_neg (x n : Int) (hn : 1 ≤ n) (h : x.tmod n < 0) : x.tmod n + n = x % n := by
  rw [Int.emod_eq_tmod]
  have hx : ¬ 0 ≤ x := fun h0 => by have := Int.tmod_nonneg (a := x) n h0; omega
  have hd : ¬ n ∣ x := fun hd => by have := Int.tmod_eq_zero_of_dvd hd; omega
  rw [if_neg (by rintro (h | h) <;> contradiction)]
  have : (n.natAbs : Int) = n := by omega
  omega
theorem tmod_bd (x n : Int) (hn : 1 ≤ n) : -n < x.tmod n ∧ x.tmod n < n := by
  have h1 := Int.tmod_lt_of_pos x (b := n) (by omega)
  have h2 := Int.neg_tmod x n
  have h3 := Int.tmod_lt_of_pos (-x) (b := n) (by omega)
  omega
set_option maxHeartbeats 400000 in
theorem pick_any (x n : Int) (hn : 1 ≤ n) (hn2 : n ≤ 4611686018427387904) (w : World) :
    Calls Try.prog 19 #[.int .i64 x, .int .i64 n] w fun e w' => e = .returned (.int .i64 (x % n)) ∧ w = w' := by
  have h1 : ¬ n < 1 := by omega
  have h0 : ¬ n = 0 := by omega
  obtain ⟨hb1, hb2⟩ := tmod_bd x n hn
  by_cases hneg : x.tmod n < 0
  · have e := tmod_neg x n hn hneg
    have H := Lib.hid e
    clear e
    go_enter Try.func19, Try.ntmps19
    go_wp2
    go_ret
    exact ⟨congrArg Ending.returned (vint H.out), rfl⟩
  · have e := tmod_pos x n hneg
    have H := Lib.hid e
    clear e
    go_enter Try.func19, Try.ntmps19
    go_wp2
    go_ret
    exact ⟨congrArg Ending.returned (vint H.out), rfl⟩
end Go.Proofs.Ytofdbghklpeamaa
