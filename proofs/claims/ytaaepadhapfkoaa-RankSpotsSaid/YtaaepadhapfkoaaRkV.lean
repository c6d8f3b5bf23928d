/-
  Rank: spots are live, of unlike nodes and unlike homes.
-/
import Derived.Test.YtaaepadhapfkoaaRkW
import Derived.Test.YtaaepadhapfkoaaRkQ
import Derived.Test.YtaaepadhapfkoaaRkY
namespace Go.Proofs.Ytaaepadhapfkoaa
set_option linter.unusedSimpArgs false
set_option linter.unusedVariables false
open Go.RowKit

/-- which of the nodes are live -/
def upC (n : Nat) (live : List Int) : Array Value := ((List.range (n + 1)).map fun j : Nat => Value.bool (decide (1 ≤ j ∧ (j : Int) ∈ live))).toArray
theorem upC_size (n : Nat) (live : List Int) : (upC n live).size = n + 1 := by simp [upC]
theorem upC_get (n : Nat) (live : List Int) (j : Nat) (h : j < n + 1) : (upC n live)[j]? = some (.bool (decide (1 ≤ j ∧ (j : Int) ∈ live))) := by simp [upC, h]
theorem upC_nil (n : Nat) : upC n [] = seenC (n + 1) [] := by
  apply Array.ext_getElem?
  intro j
  by_cases hj : j < n + 1
  · rw [upC_get n [] j hj, seenC_get _ _ j hj]
    simp
  · rw [Array.getElem?_eq_none (by rw [upC_size]; omega), Array.getElem?_eq_none (by rw [seenC_size]; omega)]
theorem upC_set (n : Nat) (l : List Int) (x : Nat) (h1 : 1 ≤ x) (h2 : x ≤ n) : (upC n l).setIfInBounds x (.bool true) = upC n (l ++ [(x : Int)]) := by
  apply Array.ext_getElem?
  intro j
  rw [Array.getElem?_setIfInBounds]
  by_cases hj : j < n + 1
  · rw [upC_get n l j hj, upC_get n _ j hj, upC_size]
    by_cases e : x = j
    · subst e; simp [hj, h1]
    · rw [if_neg e]
      congr 2
      apply decide_eq_decide.2
      rw [List.mem_append, List.mem_singleton]
      constructor
      · exact fun h => ⟨h.1, .inl h.2⟩
      · rintro ⟨h3, h4 | h4⟩
        · exact ⟨h3, h4⟩
        · omega
  · rw [Array.getElem?_eq_none (by rw [upC_size]; omega), Array.getElem?_eq_none (by rw [upC_size]; omega), upC_size, if_neg (by omega)]
theorem upC_skip (n : Nat) (l : List Int) (x : Int) (h : ¬ (1 ≤ x ∧ x ≤ n)) : upC n (l ++ [x]) = upC n l := by
  apply Array.ext_getElem?
  intro j
  by_cases hj : j < n + 1
  · rw [upC_get n l j hj, upC_get n _ j hj]
    congr 2
    apply decide_eq_decide.2
    rw [List.mem_append, List.mem_singleton]
    constructor
    · rintro ⟨h3, h4 | h4⟩
      · exact ⟨h3, h4⟩
      · omega
    · exact fun h => ⟨h.1, .inl h.2⟩
  · rw [Array.getElem?_eq_none (by rw [upC_size]; omega), Array.getElem?_eq_none (by rw [upC_size]; omega)]
theorem take_snocI {l : List Int} {k : Nat} (hk : k < l.length) : l.take (k + 1) = l.take k ++ [l.getD k 0] := by
  rw [List.take_succ_eq_append_getElem hk, List.getD_eq_getElem?_getD, List.getElem?_eq_getElem hk]
  rfl
set_option maxHeartbeats 1000000 in
theorem alive_any (n : Nat) (A : Option Addr) (live : List Int) (lc : Nat) (w : World) (hn : n ≤ 64) (hr : RdI w A live) (hll : live.length ≤ 1000) :
    Calls Try.prog 35 #[.int .i64 n, .slice A live.length lc] w fun e w' => e = .returned (.slice (some ⟨w.heap.size, 0, none⟩) (n + 1) (n + 1)) ∧ w'.heap[w.heap.size]? = some (.cells (upC n live) 4) ∧ Below w.heap.size w w' := by
  have hmk := fun V => make_bools (n + 1) (by omega) V
  have hcast : ((n + 1 : Nat) : Int) = (n : Int) + 1 := by omega
  rw [hcast] at hmk
  have hn' : (n : Int) ≤ 64 := by omega
  have hwr : IntKind.i64.wrap ((n : Int) + 1) = (n : Int) + 1 := IntWalk.i64_in _ (by omega)
  have HR := Hf.mk hr
  clear hr
  go_enter Try.func35, Try.ntmps35
  go_wp2
  rw [← upC_nil]
  have hs0 := heap_alloc_new w (.cells (upC n []) 4)
  have hsb : Below w.heap.size w (w.alloc (.cells (upC n []) 4)) := (Below.refl _ _).alloc (Nat.le_refl _) _
  have HS0 := Hf.mk hs0
  have HSB := Hf.mk hsb
  clear hs0 hsb hmk
  generalize w.alloc (.cells (upC n []) 4) = w4 at HS0 HSB ⊢
  go_loopw [6] (fun i wr => ∃ k : Nat, k ≤ live.length ∧ i = .int .i64 k ∧ Hf (wr.heap[w.heap.size]? = some (.cells (upC n (live.take k)) 4)) ∧ Hf (Below w.heap.size w wr)) (fun i _ => live.length - (intOf i).toNat)
  case atStart => exact ⟨0, by omega, rfl, HS0, HSB⟩
  case round =>
    obtain ⟨k, hk, rfl, HS, HB⟩ := hrel
    by_cases hgo : k < live.length
    · have hgo2 : (k : Int) < (live.length : Int) := by omega
      obtain ⟨b, off, rfl, _, hcell⟩ := (HR.out.below HB.out).form (by omega)
      have q0 := hcell k hgo
      have HTS := Hf.mk (take_snocI hgo)
      obtain ⟨x, hx⟩ : ∃ x, live.getD k 0 = x := ⟨_, rfl⟩
      rw [hx] at q0 HTS
      clear hcell hx
      by_cases h1 : 1 ≤ x
      · by_cases h2 : x ≤ n
        · obtain ⟨y, rfl⟩ : ∃ y : Nat, x = y := ⟨x.toNat, by omega⟩
          have c0 := Go.Joins.cell_of_block HS.out y
          rw [upC_get _ _ _ (by omega)] at c0
          have f0 := Go.Joins.unfrozen_of_block HS.out y
          have HST := Hf.mk (upC_set n (live.take k) y (by omega) (by omega))
          have i3 : (y : Int) < (n : Int) + 1 := by omega
          generalize decide (1 ≤ y ∧ (y : Int) ∈ live.take k) = bb at c0
          go_wp2
          go_roundw
          case rel => exact ⟨k + 1, by omega, by go_num, ⟨by rw [HTS.out, ← HST.out]; exact Go.Joins.block_setCell HS.out _⟩, ⟨HB.out.setCell (Nat.le_refl _) _⟩⟩
          case measure => simp [intOf]; omega
        · have HST := Hf.mk (upC_skip n (live.take k) x (fun h => h2 h.2))
          go_wp2
          go_roundw
          case rel => exact ⟨k + 1, by omega, by go_num, ⟨by rw [HTS.out, HST.out]; exact HS.out⟩, HB⟩
          case measure => simp [intOf]; omega
      · have HST := Hf.mk (upC_skip n (live.take k) x (fun h => h1 h.1))
        go_wp2
        go_roundw
        case rel => exact ⟨k + 1, by omega, by go_num, ⟨by rw [HTS.out, HST.out]; exact HS.out⟩, HB⟩
        case measure => simp [intOf]; omega
    · obtain rfl : k = live.length := by omega
      rw [List.take_of_length_le (Nat.le_refl _)] at HS
      go_wp2
      go_ret
      exact ⟨rfl, HS.out, HB.out⟩
end Go.Proofs.Ytaaepadhapfkoaa
