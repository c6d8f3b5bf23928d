/-
  Rank: whether an int is in a slice; which numbers may be; who is at home.
-/
import Derived.Test.YtaaepadhapfkoaaRkO
namespace Go.Proofs.Ytaaepadhapfkoaa
set_option linter.unusedSimpArgs false
set_option linter.unusedVariables false
open Go.RowKit

/-- a slice's address leads to ints -/
def RdI (w : World) (a : Option Addr) (l : List Int) : Prop :=
  ∀ i, i < l.length → ∃ b off, a = some ⟨b, off, none⟩ ∧ b < w.heap.size ∧ w.cell? ⟨b, off + i, none⟩ = some (.int .i64 (l.getD i 0))
theorem RdI.form {w : World} {a : Option Addr} {l : List Int} (h : RdI w a l) (hl : 0 < l.length) :
    ∃ b off, a = some ⟨b, off, none⟩ ∧ b < w.heap.size ∧ ∀ i, i < l.length → w.cell? ⟨b, off + i, none⟩ = some (.int .i64 (l.getD i 0)) := by
  obtain ⟨b, off, rfl, hb, _⟩ := h 0 hl
  refine ⟨b, off, rfl, hb, fun i hi => ?_⟩
  obtain ⟨b', off', e, _, hc⟩ := h i hi
  simp only [Option.some.injEq, Addr.mk.injEq] at e
  obtain ⟨rfl, rfl, _⟩ := e
  exact hc
theorem RdI.below {w w' : World} {a : Option Addr} {l : List Int} (h : RdI w a l) (hb : Below w.heap.size w w') : RdI w' a l := fun i hi => by
  obtain ⟨b, off, e, hlt, hc⟩ := h i hi
  exact ⟨b, off, e, Nat.lt_of_lt_of_le hlt hb.size, (hb.cell (p := ⟨b, off + i, none⟩) hlt).trans hc⟩
theorem RdI.nil (w : World) (a : Option Addr) : RdI w a [] := fun i hi => by simp at hi
theorem getD_takeI {l : List Int} {n i : Nat} (h : i < n) : (l.take n).getD i 0 = l.getD i 0 := by
  rw [List.getD_eq_getElem?_getD, List.getD_eq_getElem?_getD, List.getElem?_take, if_pos h]
theorem getD_dropI (l : List Int) (n i : Nat) : (l.drop n).getD i 0 = l.getD (n + i) 0 := by
  rw [List.getD_eq_getElem?_getD, List.getD_eq_getElem?_getD, List.getElem?_drop]
theorem RdI.take {w : World} {a : Option Addr} {l : List Int} (h : RdI w a l) (n : Nat) : RdI w a (l.take n) := fun i hi => by
  rw [List.length_take] at hi
  obtain ⟨b, off, e, hlt, hc⟩ := h i (by omega)
  exact ⟨b, off, e, hlt, by rw [getD_takeI (by omega)]; exact hc⟩
theorem RdI.drop {w : World} {b off : Nat} {l : List Int} (h : RdI w (some ⟨b, off, none⟩) l) (n : Nat) : RdI w (some ⟨b, off + n, none⟩) (l.drop n) := fun i hi => by
  rw [List.length_drop] at hi
  obtain ⟨b', off', e, hlt, hc⟩ := h (n + i) (by omega)
  simp only [Option.some.injEq, Addr.mk.injEq] at e
  obtain ⟨rfl, rfl, _⟩ := e
  exact ⟨_, _, rfl, hlt, by rw [getD_dropI, Nat.add_assoc]; exact hc⟩
theorem rdI_own {w : World} {base n g cap : Nat} {l : List Nat} (h : w.ownsRow base 3 1 (.slice (some ⟨g, 0, none⟩) n cap) n (intsN l)) : RdI w (some ⟨g, 0, none⟩) (l.map fun x : Nat => (x : Int)) := by
  rcases h.2 with ⟨h0, _⟩ | ⟨g', cap', cur, hv, _, hh, _, _, _, ht⟩
  · cases h0
  · cases hv
    intro i hi
    rw [List.length_map] at hi
    refine ⟨g, 0, rfl, (Array.getElem?_eq_some_iff.1 hh).1, ?_⟩
    have hl := h.1
    rw [intsN_len] at hl
    rw [Go.Joins.cell_of_block hh, Nat.zero_add]
    have h1 : (cur.toList.take (n * 1))[i]? = (intsN l)[i]? := by rw [ht]
    rw [List.getElem?_take, if_pos (by omega), Array.getElem?_toList] at h1
    rw [h1]
    simp [intsN, List.getD, hi]
set_option maxHeartbeats 800000 in
theorem index_any (a : Option Addr) (l : List Int) (c : Nat) (x : Int) (w : World) (h : RdI w a l) (hl : l.length ≤ 9223372036854775807) :
    Calls Try.prog 85 #[.slice a l.length c, .int .i64 x] w fun e w' => (∃ i : Int, e = .returned (.int .i64 i) ∧ (0 ≤ i ↔ x ∈ l)) ∧ w' = w := by
  have Hr := Hf.mk h
  clear h
  go_enter Try.func85, Try.ntmps85
  go_wp2
  go_loop [8] (fun i => ∃ k : Nat, k ≤ l.length ∧ i = .int .i64 k ∧ Hf (∀ j, j < k → l.getD j 0 ≠ x)) (fun i => l.length - (intOf i).toNat)
  case atStart => exact ⟨0, by omega, rfl, ⟨fun j hj => absurd hj (Nat.not_lt_zero j)⟩⟩
  case round =>
    obtain ⟨k, hk, rfl, HN⟩ := hrel
    by_cases hgo : k < l.length
    · obtain ⟨b, off, rfl, hb, hc⟩ := Hr.out.form (by omega)
      have q0 := hc k hgo
      have hgo2 : (k : Int) < (l.length : Int) := by omega
      by_cases hx : l.getD k 0 = x
      · have HM : Hf (x ∈ l) := ⟨by
          rw [← hx]
          rw [List.getD_eq_getElem?_getD, List.getElem?_eq_getElem hgo]
          exact List.getElem_mem hgo⟩
        rw [hx] at q0
        clear hc hx
        go_wp2
        go_ret
        exact ⟨⟨_, rfl, ⟨fun _ => HM.out, fun _ => by omega⟩⟩, rfl⟩
      · have hx' : ¬ x = l.getD k 0 := fun e => hx e.symm
        have HN2 : Hf (∀ j, j < k + 1 → l.getD j 0 ≠ x) := ⟨fun j hj => by
          by_cases e : j = k
          · subst e; exact hx
          · exact HN.out j (by omega)⟩
        obtain ⟨y, hy⟩ : ∃ y, l.getD k 0 = y := ⟨_, rfl⟩
        rw [hy] at q0 hx'
        clear hc hx hy
        go_wp2
        go_round
        case rel => exact ⟨k + 1, by omega, by go_num, HN2⟩
        case measure => simp [intOf]; omega
    · obtain rfl : k = l.length := by omega
      have HM : Hf (¬ x ∈ l) := ⟨fun hm => by
        obtain ⟨j, hj, e⟩ := List.getElem_of_mem hm
        exact HN.out j hj (by rw [List.getD_eq_getElem?_getD, List.getElem?_eq_getElem hj]; exact e)⟩
      go_wp2
      go_ret
      exact ⟨⟨_, rfl, ⟨fun h => by omega, fun h => absurd h HM.out⟩⟩, rfl⟩
theorem contains_any (a : Option Addr) (l : List Int) (c : Nat) (x : Int) (w : World) (h : RdI w a l) (hl : l.length ≤ 9223372036854775807) :
    Calls Try.prog 66 #[.slice a l.length c, .int .i64 x] w fun e w' => e = .returned (.bool (decide (x ∈ l))) ∧ w' = w := by
  have HI := Hf.mk (index_any a l c x w h hl)
  clear h
  go_enter Try.func66, Try.ntmps66
  go_wp2_with (go_at_call 85; refine HI.out.mono ?_; rintro e w' ⟨⟨i, rfl, hi⟩, rfl⟩)
  go_ret
  exact ⟨rfl, rfl⟩
theorem fine_any (n c : Int) (w : World) : Calls Try.prog 63 #[.int .i64 n, .int .i64 c] w fun e w' => e = .returned (.bool (decide (1 ≤ n ∧ n ≤ 64 ∧ 1 ≤ c ∧ c ≤ n))) ∧ w' = w := by
  go_enter Try.func63, Try.ntmps63
  by_cases h1 : 1 ≤ n
  · by_cases h2 : n ≤ 64
    · by_cases h3 : 1 ≤ c
      · by_cases h4 : c ≤ n
        · rw [decide_eq_true (show 1 ≤ n ∧ n ≤ 64 ∧ 1 ≤ c ∧ c ≤ n from ⟨h1, h2, h3, h4⟩)]
          go_wp2
          go_ret
          exact ⟨rfl, rfl⟩
        · rw [decide_eq_false (fun h : 1 ≤ n ∧ n ≤ 64 ∧ 1 ≤ c ∧ c ≤ n => h4 h.2.2.2)]
          go_wp2
          go_ret
          exact ⟨rfl, rfl⟩
      · rw [decide_eq_false (fun h : 1 ≤ n ∧ n ≤ 64 ∧ 1 ≤ c ∧ c ≤ n => h3 h.2.2.1)]
        go_wp2
        go_ret
        exact ⟨rfl, rfl⟩
    · rw [decide_eq_false (fun h : 1 ≤ n ∧ n ≤ 64 ∧ 1 ≤ c ∧ c ≤ n => h2 h.2.1)]
      go_wp2
      go_ret
      exact ⟨rfl, rfl⟩
  · rw [decide_eq_false (fun h : 1 ≤ n ∧ n ≤ 64 ∧ 1 ≤ c ∧ c ≤ n => h1 h.1)]
    go_wp2
    go_ret
    exact ⟨rfl, rfl⟩
end Go.Proofs.Ytaaepadhapfkoaa
