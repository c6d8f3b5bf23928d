/-
  Digest: the number of bytes, the bytes of a number.
-/
import Derived.Test.YtaaepadhapfkoaaDgB
import Derived.Laws.MakeOwn
import Derived.Outline
namespace Go.Proofs.Ytaaepadhapfkoaa
set_option linter.unusedSimpArgs false
set_option linter.unusedVariables false
open Go.RowKit

theorem retu64 {a b : Int} (h : a = b) : Ending.returned (.int .u64 a) = Ending.returned (.int .u64 b) := by rw [h]
/-- the number of bytes, the highest first -/
def num (l : List Nat) : Nat := l.foldl (fun n c => n * 256 + c) 0
theorem num_snoc (l : List Nat) (c : Nat) : num (l ++ [c]) = num l * 256 + c := by unfold num; rw [List.foldl_append]; rfl
theorem num_lt : ∀ (k : Nat) (l : List Nat), l.length = k → (∀ c ∈ l, c < 256) → num l < 256 ^ k := by
  intro k
  induction k with
  | zero => intro l h _; rw [List.length_eq_zero_iff.1 h]; decide
  | succ k ih =>
    intro l h hl
    obtain ⟨l', c, rfl⟩ : ∃ l' c, l = l' ++ [c] := ⟨l.dropLast, l.getLast (by intro e; rw [e] at h; cases h), (List.dropLast_concat_getLast _).symm⟩
    have := ih l' (by simpa using h) (fun d hd => hl d (by simp [hd]))
    have hc := hl c (by simp)
    rw [num_snoc, Nat.pow_succ]
    omega
theorem u64_push (n c : Nat) (hn : n < 72057594037927936) (hc : c < 256) : bits .or .u64 ((n : Int) * 256) (c : Int) = ((n * 256 + c : Nat) : Int) := by
  have := u64_or_nat (n * 256) c (by omega) (by omega)
  rw [show ((n * 256 : Nat) : Int) = (n : Int) * 256 by omega] at this
  rw [this]
  congr 1
  have h := Nat.two_pow_add_eq_or_of_lt (i := 8) (b := c) (by omega) n
  rw [show (2 : Nat) ^ 8 * n = n * 256 by omega] at h
  exact h.symm
set_option maxHeartbeats 800000 in
theorem number_any (a : Option Addr) (l : List Nat) (cap : Nat) (w : World) (hr : Reads w a l) (hl : l.length ≤ 8) :
    Calls Try.prog 52 #[.slice a l.length cap] w fun e w' => e = .returned (.int .u64 (num l)) ∧ w = w' := by
  have Hr := Lib.hid hr
  clear hr
  go_enter Try.func52, Try.ntmps52
  go_wp2
  go_loop [2, 7] (fun v i => ∃ k : Nat, k ≤ l.length ∧ i = .int .i64 k ∧ v = .int .u64 (num (l.take k))) (fun _ i => l.length - (intOf i).toNat)
  case atStart => exact ⟨0, by omega, rfl, rfl⟩
  case round =>
    obtain ⟨k, hk, rfl, rfl⟩ := hrel
    by_cases hgo : k < l.length
    · obtain ⟨b, off, rfl, hb, hc⟩ := Hr.out.form (by omega)
      have q0 := hc k hgo
      have hb1 := num_lt k (l.take k) (by rw [List.length_take]; omega) (fun c h => Hr.out.bytes c (List.mem_of_mem_take h))
      have hc2 := Sha.get_lt (by omega) Hr.out.bytes k
      have hs : num (l.take (k + 1)) = num (l.take k) * 256 + l.getD k 0 := by rw [take_snoc hgo, num_snoc]
      have hp : 256 ^ k ≤ 256 ^ 7 := Nat.pow_le_pow_right (by omega) (by omega)
      have hp7 : (256 : Nat) ^ 7 = 72057594037927936 := by decide
      obtain ⟨n, hn⟩ : ∃ n, num (l.take k) = n := ⟨_, rfl⟩
      obtain ⟨c, hcc⟩ : ∃ c, l.getD k 0 = c := ⟨_, rfl⟩
      rw [hn] at hb1 hs ⊢
      rw [hcc] at hc2 hs q0
      have hn2 : n < 72057594037927936 := by omega
      have hn3 : (n : Int) < 72057594037927936 := by omega
      have hpu := u64_push n c hn2 hc2
      have Hs := Lib.hid hs
      have Hpu := Lib.hid hpu
      clear hn hcc hs hpu hc hp hp7 hb1
      go_wp2
      go_round
      case rel => exact ⟨k + 1, by omega, by go_num, by rw [Hs.out]; exact vint (by first | exact Hpu.out | (rw [← Hpu.out]; congr 1; omega))⟩
      case measure => simp [intOf]; omega
    · obtain rfl : k = l.length := by omega
      go_wp2
      go_ret
      exact ⟨rfl, rfl⟩
/-- the bytes of a number that are written so far -/
def dig (n many k : Nat) : List Nat := (List.range many).map fun j => if many - k ≤ j then n / 256 ^ (many - 1 - j) % 256 else 0
theorem dig_len (n many k : Nat) : (dig n many k).length = many := by simp [dig]
theorem dig_get (n many k j : Nat) (h : j < many) : (dig n many k).getD j 0 = if many - k ≤ j then n / 256 ^ (many - 1 - j) % 256 else 0 := by
  simp [dig, List.getD, h]
theorem dig_be : ∀ (many n : Nat), dig n many many = Sha.be n many
  | 0, n => rfl
  | many + 1, n => by
    rw [Sha.be, ← dig_be many (n / 256)]
    unfold dig
    rw [List.range_succ, List.map_append]
    congr 1
    · apply List.map_congr_left
      intro j hj
      have hj := List.mem_range.1 hj
      simp only [Nat.sub_self, Nat.zero_le, if_true]
      rw [show many + 1 - 1 - j = (many - 1 - j) + 1 by omega, Nat.pow_succ, Nat.mul_comm, Nat.div_div_eq_div_mul]
    · simp
theorem dig_set (n many k : Nat) (h : k < many) : ((cellsOf (dig n many k)).toArray.setIfInBounds (many - 1 - k) (.int .u8 (n / 256 ^ k % 256 : Nat))) = (cellsOf (dig n many (k + 1))).toArray := by
  apply Array.ext_getElem?
  intro j
  rw [Array.getElem?_setIfInBounds]
  by_cases hj : j < many
  · have c1 := cellsOf_at (l := dig n many k) (j := j) (by rw [dig_len]; exact hj)
    have c2 := cellsOf_at (l := dig n many (k + 1)) (j := j) (by rw [dig_len]; exact hj)
    simp only [List.getElem?_toArray, List.size_toArray, cellsOf_length, dig_len]
    rw [c1, c2, dig_get _ _ _ _ hj, dig_get _ _ _ _ hj]
    by_cases e : many - 1 - k = j
    · rw [if_pos e, if_pos (by omega), if_pos (by omega)]
      rw [show many - 1 - j = k by omega]
    · rw [if_neg e]
      by_cases e2 : many - k ≤ j
      · rw [if_pos e2, if_pos (by omega)]
      · rw [if_neg e2, if_neg (by omega)]
  · simp only [List.getElem?_toArray, List.size_toArray, cellsOf_length, dig_len]
    rw [List.getElem?_eq_none (by rw [cellsOf_length, dig_len]; omega), List.getElem?_eq_none (by rw [cellsOf_length, dig_len]; omega), if_neg (by omega)]
theorem dig_zero (n many : Nat) : (cellsOf (dig n many 0)).toArray = madeCells #[Value.int .u8 0] many := by
  apply Array.ext_getElem?
  intro j
  by_cases hj : j < many
  · have c1 := cellsOf_at (l := dig n many 0) (j := j) (by rw [dig_len]; exact hj)
    simp only [List.getElem?_toArray]
    rw [c1, dig_get _ _ _ _ hj, if_neg (by omega)]
    simp [madeCells, hj, Nat.mod_one]
  · rw [Array.getElem?_eq_none (by simp [cellsOf_length, dig_len]; omega), Array.getElem?_eq_none (by simp [madeCells]; omega)]
theorem run_make_rowN {P : Program} (t e : TypeId) (z : Value) (s bytes : Nat) (ht : P.underlying t = some (.slice e)) (hinfo : (P.info? e).map (fun i => (i.zero, i.size, i.bytes)) = some (some z, s, bytes))
    (n : Nat) (hb : bytes * n ≤ 281474976710656) (h63 : n ≤ 9223372036854775807) (w : World) :
    (Instr.makeSlice t (.int .i64 (n : Int)) (.int .i64 (n : Int))).run P w = .ok (.slice (some ⟨w.heap.size, 0, none⟩) n n) (w.alloc (.cells (madeCells z.cells (n * s)) e)) := by
  obtain ⟨i, hi, hz⟩ := Option.map_eq_some_iff.1 hinfo
  simp only [Prod.mk.injEq] at hz
  obtain ⟨hz0, hz1, hz2⟩ := hz
  subst hz1
  have hb' : (i.bytes : Int) * (n : Int) ≤ 281474976710656 := by
    have h : ((i.bytes * n : Nat) : Int) ≤ 281474976710656 := by rw [hz2]; omega
    rwa [Int.natCast_mul] at h
  have hr := run_make (P := P) w t e i z ht hi hz0 .i64 .i64 n n (by omega) (by omega) hb' (by omega)
  simp only [Int.toNat_natCast] at hr
  exact hr
theorem make_bytes (m : Nat) (h : m ≤ 1000000) (W : World) : (Instr.makeSlice 54 (.int .i64 (m : Int)) (.int .i64 (m : Int))).run Try.prog W = .ok (.slice (some ⟨W.heap.size, 0, none⟩) m m) (W.alloc (.cells (madeCells #[Value.int .u8 0] m) 5)) :=
  by
  have := run_make_rowN (P := Try.prog) 54 5 (.int .u8 0) 1 1 Try.underlying54 info5 m (by omega) (by omega) W
  rwa [Nat.mul_one] at this
set_option maxHeartbeats 800000 in
theorem digitsOf_any (n many : Nat) (w : World) (hm : many ≤ 8) (hm0 : 0 < many) (hn : n < 18446744073709551616) :
    Calls Try.prog 76 #[.int .u64 n, .int .i64 many] w fun e w' => e = .returned (.slice (some ⟨w.heap.size, 0, none⟩) many many) ∧ w' = w.alloc (.cells (cellsOf (Sha.be n many)).toArray 5) := by
  have hmk := make_bytes many (by omega)
  have hz := dig_zero n many
  rw [← hz] at hmk
  obtain ⟨cs0, hcs0⟩ : ∃ cs0, (cellsOf (dig n many 0)).toArray = cs0 := ⟨_, rfl⟩
  rw [hcs0] at hmk
  have Hcs := Lib.hid hcs0
  clear hz hcs0
  go_enter Try.func76, Try.ntmps76
  go_wp2
  go_loopw [0, 11] (fun v i wr => ∃ k : Nat, k ≤ many ∧ i = .int .i64 k ∧ v = .int .u64 (n / 256 ^ k : Nat) ∧ wr = w.alloc (.cells (cellsOf (dig n many k)).toArray 5)) (fun _ i _ => many - (intOf i).toNat)
  case atStart => exact ⟨0, by omega, rfl, by simp, by rw [Hcs.out]⟩
  case round =>
    obtain ⟨k, hk, rfl, rfl, rfl⟩ := hrel
    by_cases hgo : k < many
    · obtain ⟨j, hj⟩ : ∃ j, many - 1 - k = j := ⟨_, rfl⟩
      have hjm : j < many := by omega
      have hset := dig_set n many k hgo
      have hcell := cellsOf_at (l := dig n many k) (j := j) (by rw [dig_len]; exact hjm)
      rw [hj] at hset
      obtain ⟨z, hz⟩ : ∃ z, (dig n many k).getD j 0 = z := ⟨_, rfl⟩
      rw [hz] at hcell
      obtain ⟨cs, hcs⟩ : ∃ cs, (cellsOf (dig n many k)).toArray = cs := ⟨_, rfl⟩
      have hc2 : cs[j]? = some (.int .u8 z) := by rw [← hcs]; simpa using hcell
      rw [hcs] at hset ⊢
      obtain ⟨m, hm⟩ : ∃ m, n / 256 ^ k = m := ⟨_, rfl⟩
      have hm2 : n / 256 ^ (k + 1) = m / 256 := by rw [Nat.pow_succ, ← Nat.div_div_eq_div_mul, hm]
      have hmn : m ≤ n := by rw [← hm]; exact Nat.div_le_self _ _
      have hm3 : m < 18446744073709551616 := by omega
      rw [hm] at hset ⊢
      have hj2 : (many : Int) - 1 - (k : Int) = (j : Int) := by omega
      have Hset := Lib.hid hset
      have Hm2 := Lib.hid hm2
      clear hj hcell hz hcs hset hm hm2 hmn
      go_wp2
      go_roundw
      case rel => exact ⟨k + 1, by omega, by go_num, by rw [Hm2.out]; go_num, by rw [← Hset.out]; first | rfl | go_num⟩
      case measure => simp [intOf]; omega
    · obtain rfl : k = many := by omega
      have hbe := dig_be k n
      have Hbe := Lib.hid hbe
      clear hbe
      go_wp2
      go_ret
      exact ⟨rfl, by rw [Hbe.out]⟩
end Go.Proofs.Ytaaepadhapfkoaa
