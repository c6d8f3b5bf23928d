/-
  Rank: what the statements ask with: an order, whether two lists are the same, a number picked.
-/
import Derived.Test.YtaaepadhapfkoaaRkD
namespace Go.Proofs.Ytaaepadhapfkoaa
set_option linter.unusedSimpArgs false
set_option linter.unusedVariables false
open Go.RowKit

set_option maxRecDepth 100000 in
theorem law_order_bad (id : List Nat) (n : Int) (w : World) (hl : id.length = 32) (hn : ¬ (1 ≤ n ∧ n ≤ 64)) :
    Calls Try.prog 34 #[.agg (cellsOf id).toArray, .int .i64 n] w fun e w' => e = .returned (.slice none 0 0) ∧ Below w.heap.size w w' := by
  have HO := Hf.mk (fun u => order_bad id n u hn)
  have hz : (cellsOf id).toArray.size = 32 := by rw [List.size_toArray, cellsOf_length, hl]
  have H1 := Hf.mk (heap_alloc_new w (.cells (cellsOf id).toArray 23))
  have HB : Hf (Below w.heap.size w (w.alloc (.cells (cellsOf id).toArray 23))) := ⟨(Below.refl _ _).alloc (Nat.le_refl _) _⟩
  generalize (cellsOf id).toArray = zs at *
  have HZ := Hf.mk hz
  clear hn hz hl
  go_enter Try.func34, Try.ntmps34
  go_upto_region 1 with fail
  generalize w.alloc (.cells zs 23) = W at *
  go_wp2_with (first
    | (with_reducible refine wpList_load_row rfl 23 _ rfl w.heap.size rfl 23 zs (0, 0) _ H1.out Try.underlying23 rfl (size23.trans (by rw [HZ.out])) ?_)
    | (go_at_call 24; (with_reducible refine (HO.out _).mono ?_); rintro e w1 ⟨rfl, hb1⟩; have HB1 := Hf.mk hb1; clear hb1))
  go_ret
  exact ⟨rfl, below_step HB.out HB1.out⟩
set_option maxRecDepth 100000 in
theorem law_order (id : List Nat) (n : Nat) (w : World) (hl : id.length = 32) (hb : ∀ c ∈ id, c < 256) (hn : 1 ≤ n) (hn2 : n ≤ 64) :
    Calls Try.prog 34 #[.agg (cellsOf id).toArray, .int .i64 n] w fun e w' => ∃ g cap, e = .returned (.slice (some ⟨g, 0, none⟩) n cap) ∧ RdI w' (some ⟨g, 0, none⟩) (ordI id n) ∧ n ≤ cap ∧ Below w.heap.size w w' := by
  have HO := Hf.mk (fun u => ordered_any id n u hl hb hn hn2)
  have hz : (cellsOf id).toArray.size = 32 := by rw [List.size_toArray, cellsOf_length, hl]
  have H1 := Hf.mk (heap_alloc_new w (.cells (cellsOf id).toArray 23))
  have HB : Hf (Below w.heap.size w (w.alloc (.cells (cellsOf id).toArray 23))) := ⟨(Below.refl _ _).alloc (Nat.le_refl _) _⟩
  generalize (cellsOf id).toArray = zs at *
  have HZ := Hf.mk hz
  clear hz hl hb
  have HCP : Hf (∀ (u : World) (base g cap : Nat) (xs : List Value), u.ownsRow base 3 1 (.slice (some ⟨g, 0, none⟩) n cap) n xs → n ≤ cap) := ⟨fun u base g cap xs h => by
    rcases h.2 with ⟨h0, _⟩ | ⟨g', cap', cur, hv, _, _, hh, _⟩
    · cases h0
    · cases hv; exact hh⟩
  go_enter Try.func34, Try.ntmps34
  go_upto_region 1 with fail
  generalize w.alloc (.cells zs 23) = W at *
  go_wp2_with (first
    | (with_reducible refine wpList_load_row rfl 23 _ rfl w.heap.size rfl 23 zs (0, 0) _ H1.out Try.underlying23 rfl (size23.trans (by rw [HZ.out])) ?_)
    | (go_at_call 24; (with_reducible refine (HO.out _).mono ?_); rintro e w1 ⟨g, cap, rfl, hown, hb1⟩; have HB1 := Hf.mk hb1; have HOW := Hf.mk hown; have hcap := HCP.out _ _ _ _ _ hown; clear hb1 hown))
  go_ret
  exact ⟨g, cap, rfl, rdI_own HOW.out, hcap, below_step HB.out HB1.out⟩
set_option maxHeartbeats 1000000 in
theorem same_ints (a b : Option Addr) (c d : Nat) (l : List Int) (w : World) (ha : RdI w a l) (hb : RdI w b l) (hl : l.length ≤ 1000) :
    Calls Try.prog 28 #[.slice a l.length c, .slice b l.length d] w fun e w' => e = .returned (.bool true) ∧ Below w.heap.size w w' := by
  have HA := Hf.mk ha
  have HB := Hf.mk hb
  clear ha hb
  go_enter Try.func28, Try.ntmps28
  go_wp2
  go_loopw [5, 6] (fun v i wr => ∃ k : Nat, k ≤ l.length ∧ v = .bool true ∧ i = .int .i64 k ∧ Hf (Below w.heap.size w wr)) (fun _ i _ => l.length - (intOf i).toNat)
  case atStart => exact ⟨0, by omega, by simp, rfl, ⟨Below.refl _ _⟩⟩
  case round =>
    obtain ⟨k, hk, rfl, rfl, HW⟩ := hrel
    by_cases hgo : k < l.length
    · obtain ⟨b1, o1, rfl, _, ca⟩ := (HA.out.below HW.out).form (by omega)
      obtain ⟨b2, o2, rfl, _, cb⟩ := (HB.out.below HW.out).form (by omega)
      have c0 := ca k hgo
      have c1 := cb k hgo
      have hgo2 : (k : Int) < (l.length : Int) := by omega
      generalize l.getD k 0 = x at c0 c1
      clear ca cb
      go_wp2_with go_quiet (fail)
      go_roundw
      case rel => exact ⟨k + 1, by omega, by simp, by go_num, ⟨below_drewN HW.out _⟩⟩
      case measure => simp [intOf]; omega
    · obtain rfl : k = l.length := by omega
      go_wp2
      go_ret
      exact ⟨rfl, HW.out⟩
theorem tmod_bounds (x n : Int) (hn : 1 ≤ n) : -n < x.tmod n ∧ x.tmod n < n := by
  have h1 := Int.tmod_lt_of_pos x (show 0 < n by omega)
  have h2 := Int.lt_tmod_of_pos x (show 0 < n by omega)
  exact ⟨h2, h1⟩
theorem tmod_pick (x n : Int) (hn : 1 ≤ n) : (if x.tmod n < 0 then x.tmod n + n else x.tmod n) = x % n := by
  rw [Int.tmod_eq_emod]
  have h0 := Int.emod_nonneg x (show n ≠ 0 by omega)
  have h1 := Int.emod_lt_of_pos x (show 0 < n by omega)
  split
  · split at * <;> omega
  · omega
theorem ret_iR {a b : Int} (h : a = b) : Ending.returned (.int .i64 a) = .returned (.int .i64 b) := by rw [h]
set_option maxHeartbeats 1600000 in
theorem Pick_any (x n : Int) (w : World) (hn : 1 ≤ n) (hn2 : n ≤ 9223372036854775807) : Calls Try.prog 33 #[.int .i64 x, .int .i64 n] w fun e w' => e = .returned (.int .i64 (x % n)) ∧ w = w' := by
  have hb := tmod_bounds x n hn
  have HP := Hf.mk (tmod_pick x n hn)
  obtain ⟨r, hr⟩ : ∃ r, r = x % n := ⟨_, rfl⟩
  rw [← hr] at HP ⊢
  clear hr
  go_enter Try.func33, Try.ntmps33
  go_wp2
  · have h : x.tmod n < 0 := by assumption
    have hr := HP.out
    rw [if_pos h] at hr
    go_ret
    exact ⟨ret_iR hr, rfl⟩
  · have h : 0 ≤ x.tmod n := by assumption
    have hr := HP.out
    rw [if_neg (by omega)] at hr
    go_ret
    exact ⟨ret_iR hr, rfl⟩
/-- a slice's address leads to spots -/
def RdS (w : World) (a : Option Addr) (l : List (Int × Int)) : Prop :=
  ∀ i, i < l.length → ∃ b, a = some ⟨b, 0, none⟩ ∧ b < w.heap.size ∧ w.cell? ⟨b, i * 2, none⟩ = some (.int .i64 (l.getD i (0, 0)).1) ∧ w.cell? ⟨b, i * 2 + 1, none⟩ = some (.int .i64 (l.getD i (0, 0)).2)
theorem RdS.below {w w' : World} {a : Option Addr} {l : List (Int × Int)} (h : RdS w a l) (hb : Below w.heap.size w w') : RdS w' a l := fun i hi => by
  obtain ⟨b, e, hlt, h1, h2⟩ := h i hi
  exact ⟨b, e, Nat.lt_of_lt_of_le hlt hb.size, (hb.cell (p := ⟨b, i * 2, none⟩) hlt).trans h1, (hb.cell (p := ⟨b, i * 2 + 1, none⟩) hlt).trans h2⟩
theorem flatS_get : ∀ (l : List (Int × Int)) (i c : Nat), i < l.length → c < 2 → (flatS l)[i * 2 + c]? = [Value.int .i64 (l.getD i (0, 0)).1, .int .i64 (l.getD i (0, 0)).2][c]?
  | [], i, c, h, _ => by simp at h
  | x :: l, 0, c, _, hc => by
    show ([Value.int .i64 x.1, .int .i64 x.2] ++ flatS l)[0 * 2 + c]? = _
    rw [List.getElem?_append_left (by show _ < 2; omega), Nat.zero_mul, Nat.zero_add]
    rfl
  | x :: l, i + 1, c, h, hc => by
    show ([Value.int .i64 x.1, .int .i64 x.2] ++ flatS l)[(i + 1) * 2 + c]? = _
    rw [List.getElem?_append_right (by show 2 ≤ _; omega)]
    have := flatS_get l i c (by simpa using h) hc
    rw [show (i + 1) * 2 + c - [Value.int .i64 x.1, .int .i64 x.2].length = i * 2 + c by show (i + 1) * 2 + c - 2 = _; omega, this]
    rfl
theorem rdS_own {w : World} {base n : Nat} {v : Value} {l : List (Int × Int)} (hn : n = l.length) (h : w.ownsRow base 52 2 v n (flatS l)) : ∃ A c, v = .slice A l.length c ∧ RdS w A l ∧ l.length ≤ c := by
  subst hn
  rcases h.2 with ⟨rfl, h0⟩ | ⟨g, cap, cur, rfl, _, hh, hc, _, _, ht⟩
  · obtain rfl := List.eq_nil_of_length_eq_zero h0
    exact ⟨none, 0, rfl, fun i hi => by simp at hi, Nat.le_refl _⟩
  · refine ⟨_, cap, rfl, fun i hi => ⟨g, rfl, (Array.getElem?_eq_some_iff.1 hh).1, ?_, ?_⟩, hc⟩
    · rw [Go.Joins.cell_of_block hh]
      have h1 : (cur.toList.take (l.length * 2))[i * 2]? = (flatS l)[i * 2]? := by rw [ht]
      rw [List.getElem?_take, if_pos (by omega), Array.getElem?_toList] at h1
      rw [h1]
      exact flatS_get l i 0 hi (by omega)
    · rw [Go.Joins.cell_of_block hh]
      have h1 : (cur.toList.take (l.length * 2))[i * 2 + 1]? = (flatS l)[i * 2 + 1]? := by rw [ht]
      rw [List.getElem?_take, if_pos (by omega), Array.getElem?_toList] at h1
      rw [h1]
      exact flatS_get l i 1 hi (by omega)
set_option maxHeartbeats 1000000 in
theorem same_spots (a b : Option Addr) (c d : Nat) (l : List (Int × Int)) (w : World) (ha : RdS w a l) (hb : RdS w b l) (hl : l.length ≤ 1000) :
    Calls Try.prog 29 #[.slice a l.length c, .slice b l.length d] w fun e w' => e = .returned (.bool true) ∧ Below w.heap.size w w' := by
  have HA := Hf.mk ha
  have HB := Hf.mk hb
  clear ha hb
  go_enter Try.func29, Try.ntmps29
  go_wp2
  go_loopw [5, 6] (fun v i wr => ∃ k : Nat, k ≤ l.length ∧ v = .bool true ∧ i = .int .i64 k ∧ Hf (Below w.heap.size w wr)) (fun _ i _ => l.length - (intOf i).toNat)
  case atStart => exact ⟨0, by omega, by simp, rfl, ⟨Below.refl _ _⟩⟩
  case round =>
    obtain ⟨k, hk, rfl, rfl, HW⟩ := hrel
    by_cases hgo : k < l.length
    · obtain ⟨b1, rfl, _, c0, c1⟩ := (HA.out.below HW.out) k hgo
      obtain ⟨b2, rfl, _, c2, c3⟩ := (HB.out.below HW.out) k hgo
      have hgo2 : (k : Int) < (l.length : Int) := by omega
      generalize (l.getD k (0, 0)).1 = x at c0 c2
      generalize (l.getD k (0, 0)).2 = y at c1 c3
      go_wp2_with go_quiet (fail)
      go_roundw
      case rel => exact ⟨k + 1, by omega, by simp, by go_num, ⟨below_drewN HW.out _⟩⟩
      case measure => simp [intOf]; omega
    · obtain rfl : k = l.length := by omega
      go_wp2
      go_ret
      exact ⟨rfl, HW.out⟩
end Go.Proofs.Ytaaepadhapfkoaa
