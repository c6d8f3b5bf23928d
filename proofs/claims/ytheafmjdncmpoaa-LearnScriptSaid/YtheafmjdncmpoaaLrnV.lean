/-
  Learn: OverBytes: what is told is written over, its block alone.
-/
import Derived.Test.YtheafmjdncmpoaaLrnX
namespace Go.Proofs.Ytheafmjdncmpoaa
set_option linter.unusedSimpArgs false
set_option linter.unusedVariables false
open Go.RowKit Go.Proofs.YtheafmjdncmpoaaW.PrintWords Go.Proofs.YtheafmjdncmpoaaW.PrintMore

theorem RowB.form {w : World} {base : Nat} {v : Value} {xs : List Int} (h : RowB w base v xs) :
    (v = .slice none 0 0 ∧ xs = []) ∨ ∃ g cap cur, v = .slice (some ⟨g, 0, none⟩) xs.length cap ∧ base ≤ g ∧ w.heap[g]? = some (.cells cur 5 (0, 0)) ∧ cur.size = cap ∧ cap ≤ maxLen ∧ xs.length ≤ cap ∧ ∀ u ∈ cur.toList, isI .u8 u := by
  obtain ⟨⟨h0, inner, ho, hr⟩, hf⟩ := h
  rcases ho.2 with ⟨rfl, hz⟩ | ⟨g, cap, cur, rfl, hg, hgg, hnc, hm, hcs, _⟩
  · exact .inl ⟨rfl, List.length_eq_zero_iff.1 hz⟩
  · obtain ⟨cur', h1, h2⟩ := hf g (by simp [Value.ownBlock])
    rw [hgg] at h1
    injection h1 with h1
    injection h1 with h1 _ _
    subst h1
    exact .inr ⟨g, cap, cur, rfl, hg, hgg, by rw [hcs]; show cap * 1 = cap; omega, hm, hnc, h2⟩
theorem isB_get {cur : Array Value} {i : Nat} (h : ∀ u ∈ cur.toList, isI .u8 u) (hi : i < cur.size) : ∃ x, cur[i]? = some (.int .u8 x) := by
  obtain ⟨x, hx⟩ := h cur[i] (by simp)
  exact ⟨x, by rw [Array.getElem?_eq_getElem hi, hx]⟩
theorem isB_set {cur : Array Value} {i : Nat} {y : Int} (h : ∀ u ∈ cur.toList, isI .u8 u) : ∀ u ∈ (cur.setIfInBounds i (.int .u8 y)).toList, isI .u8 u := by
  intro u hu
  rw [Array.toList_setIfInBounds] at hu
  rcases List.mem_or_eq_of_mem_set hu with hu | hu
  · exact h u hu
  · exact ⟨y, hu⟩
set_option maxHeartbeats 1600000 in
set_option maxRecDepth 100000 in
theorem overB_at (g n cap : Nat) (cur : Array Value) (w : World) (hg : w.heap[g]? = some (.cells cur 5 (0, 0))) (hc : cur.size = cap) (hm : cap ≤ maxLen) (hn : n ≤ cap) (hI : ∀ u ∈ cur.toList, isI .u8 u) :
    Calls Try.prog 92 #[.slice (some ⟨g, 0, none⟩) n cap] w fun e w' => e = .returned (.tuple #[]) ∧ Moved (fun k => k = g) w w' := by
  unfold maxLen at hm
  have HG := Aside0.mk hg
  have HI := Aside0.mk hI
  have HC := Aside0.mk hc
  clear hg hI hc
  go_enter Try.func92, Try.ntmps92
  go_wp2
  go_loopw [2] (fun i wr => ∃ (k : Nat) (cs : Array Value), k ≤ cap ∧ i = .int .i64 k ∧ Aside0 (wr.heap[g]? = some (.cells cs 5 (0, 0))) ∧ Aside0 (cs.size = cap) ∧ Aside0 (∀ u ∈ cs.toList, isI .u8 u) ∧ Aside0 (Moved (fun k => k = g) w wr)) (fun i _ => cap - (intOf i).toNat)
  case atStart => exact ⟨0, cur, by omega, rfl, HG, HC, HI, ⟨Moved.of_below (Below.refl _ _)⟩⟩
  case round =>
    clear HG HI HC
    obtain ⟨k, cs, hk, rfl, HG, HC, HI, HM⟩ := hrel
    by_cases hgo : k < cap
    · obtain ⟨x, hx⟩ := isB_get HI.out (i := k) (by rw [HC.out]; exact hgo)
      have q0 := cell_of_row _ g k _ _ _ HG.out
      rw [hx] at q0
      clear hx
      have q1 := frozen_of_row _ g k _ _ HG.out
      go_wp2
      go_roundw
      case rel => exact ⟨k + 1, _, by omega, by go_num, ⟨heap_setCell_same _ _ _ _ _ _ HG.out⟩, ⟨by rw [Array.size_setIfInBounds]; exact HC.out⟩, ⟨isB_set HI.out⟩, ⟨HM.out.set _ rfl _⟩⟩
      case measure => simp [intOf]; omega
    · obtain rfl : k = cap := by omega
      go_wp2
      go_end0
      exact ⟨rfl, HM.out⟩
theorem overB_nil (w : World) : Calls Try.prog 92 #[.slice none 0 0] w fun e w' => e = .returned (.tuple #[]) ∧ Below w.heap.size w w' := by
  go_enter Try.func92, Try.ntmps92
  go_wp2
  go_loopw [2] (fun i wr => i = .int .i64 0 ∧ Aside0 (Below w.heap.size w wr)) (fun i _ => 0 - (intOf i).toNat)
  case atStart => exact ⟨rfl, ⟨Below.refl _ _⟩⟩
  case round =>
    obtain ⟨rfl, HB⟩ := hrel
    go_wp2
    go_end0
    exact ⟨rfl, HB.out⟩
theorem OverB_any {w : World} {base : Nat} {v : Value} {xs : List Int} (h : RowB w base v xs) : Calls Try.prog 92 #[v] w fun e w' => e = .returned (.tuple #[]) ∧ Moved (fun k => some k = v.ownBlock) w w' := by
  rcases h.form with ⟨rfl, _⟩ | ⟨g, cap, cur, rfl, _, h1, h2, h3, h4, h5⟩
  · exact (overB_nil w).mono fun e u ⟨e1, e2⟩ => ⟨e1, Moved.of_below e2⟩
  · refine (overB_at g xs.length cap cur w h1 h2 h3 h4 h5).mono fun e u ⟨e1, e2⟩ => ⟨e1, e2.os, e2.tape, e2.output, e2.size, fun k hk hne => e2.block k hk (fun e => hne ?_)⟩
    show some k = some g
    rw [e]
end Go.Proofs.Ytheafmjdncmpoaa
