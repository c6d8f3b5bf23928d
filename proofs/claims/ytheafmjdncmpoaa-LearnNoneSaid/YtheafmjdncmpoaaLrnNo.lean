/-
  LearnNone, walked and answered.
-/
import Derived.Test.YtheafmjdncmpoaaLrnN
namespace Go.Proofs.Ytheafmjdncmpoaa
set_option linter.unusedSimpArgs false
set_option linter.unusedVariables false
open Go.RowKit Go.Proofs.YtheafmjdncmpoaaW.PrintWords Go.Proofs.YtheafmjdncmpoaaW.PrintMore

/-- a literal row of one word -/
theorem one_words {w : World} {b : Nat} {q : Wd} {A : Option Addr} {c : Nat} (h : w.heap[b]? = some (.cells (q.cells A c).toArray 86 (0, 0))) (hg : Given w A c q.x) : IsWords w (some ⟨b, 0, none⟩) 1 1 [q] := by
  refine ⟨rfl, Nat.le_refl _, by omega, fun i hi => ?_⟩
  obtain rfl : i = 0 := by omega
  refine ⟨⟨b, 0, none⟩, A, c, rfl, fun j u hu => ?_, hg⟩
  rw [show (0 * 5 + j) = j by omega, add_plain, cell_of_row _ b j _ _ _ h]
  simpa using hu
theorem noneL_box (w u : World) (hb : Below (w.alloc (.cells Try.zeroCells93 93)).heap.size (w.alloc (.cells Try.zeroCells93 93)) u) : NoneL (some ⟨w.heap.size, 0, none⟩) u := by
  refine NoneL.below (noneL_zero _ _ ?_) hb
  rw [cell_of_row _ _ 195 _ _ _ (heap_alloc_new _ _)]
  kernel_rfl
set_option maxHeartbeats 400000 in
set_option maxRecDepth 100000 in
theorem learnNone_walk (q : Wd) (A : Option Addr) (c : Nat) (w : World) (hg : Given w A c q.x) :
    Calls Try.prog 15 #[.agg (q.cells A c).toArray] w fun e w' => e = .returned (.bool true) ∧ Below w.heap.size w w' := by
  have hb0 : Below w.heap.size w (w.alloc (.cells (q.cells A c).toArray 86)) := (Below.refl _ _).alloc (Nat.le_refl _) _
  have hb1 : Below w.heap.size w ((w.alloc (.cells (q.cells A c).toArray 86)).alloc (.cells (q.cells A c).toArray 86)) := hb0.alloc (by simp) _
  have hx : ((w.alloc (.cells (q.cells A c).toArray 86)).alloc (.cells (q.cells A c).toArray 86)).heap[w.heap.size + 1]? = some (.cells (q.cells A c).toArray 86 (0, 0)) := by
    have := heap_alloc_new (w.alloc (.cells (q.cells A c).toArray 86)) (.cells (q.cells A c).toArray 86)
    simpa using this
  have hx0 : ((w.alloc (.cells (q.cells A c).toArray 86)).alloc (.cells (q.cells A c).toArray 86)).heap[w.heap.size]? = some (.cells (q.cells A c).toArray 86 (0, 0)) := by
    rw [Below.heap_alloc _ _ _ (by simp)]; exact heap_alloc_new _ _
  have hl := long_any (one_words hx (hg.below hb1))
  simp only [List.length_cons, List.length_nil, Nat.zero_add, LongAns] at hl
  obtain ⟨t, kk, n, d, x⟩ := q
  simp only [Wd.cells] at hl hb1 hx hx0 ⊢
  obtain ⟨ln, hln⟩ : ∃ ln, x.length = ln := ⟨_, rfl⟩
  rw [hln] at hl hb1 hx hx0 ⊢
  have HL := Aside0.mk hl
  have HB1 := Aside0.mk hb1
  have HX0 := Aside0.mk hx0
  have HAW := Aside0.mk awake49
  clear hl hb0 hb1 hx hx0 hg hln
  go_enter Try.func15, Try.ntmps15
  go_wp2_with (first
    | (go_at_call 55; (with_reducible refine HL.out.mono ?_); rintro e u ⟨r, rfl, hb, _⟩; have HB := Aside0.mk (below_step HB1.out hb); have HX := Aside0.mk ((hb.block w.heap.size (by simp; omega)).trans HX0.out); clear hb HL HB1 HX0)
    | (go_at_call 49; (with_reducible refine (HAW.out _).mono ?_); rintro e v ⟨rfl, hb⟩; have h1 := Aside0.mk (below_step HB.out hb); clear HB hb; have HB := h1; clear h1))
  · go_ret
    exact ⟨rfl, HB.out⟩
  · have hr0 : r = false := by first | assumption | simp_all
    subst hr0
    have HX1 : Aside0 (Below w.heap.size w ((u.alloc (.cells Try.zeroCells93 93)).alloc (.cells #[.pointer none, .pointer (some ⟨u.heap.size, 0, none⟩)] 70))) := ⟨(HB.out.alloc HB.out.size _).alloc (by have := HB.out.size; simp; omega) _⟩
    go_loopw [4] (fun i wr => ∃ k : Nat, k ≤ 2 ∧ i = .int .i64 k ∧ Aside0 (wr.heap[w.heap.size]? = some (.cells #[.bool t, .int .i64 kk, .int .i64 n, .int .i64 d, .slice A ln c] 86 (0, 0))) ∧ Aside0 (wr.heap[u.heap.size + 1]? = some (.cells #[.pointer none, .pointer (some ⟨u.heap.size, 0, none⟩)] 70 (0, 0))) ∧ Aside0 (NoneL (some ⟨u.heap.size, 0, none⟩) wr) ∧ Aside0 (Below w.heap.size w wr)) (fun i _ => 2 - (intOf i).toNat)
    case atStart =>
      have hus := HB.out.size
      refine ⟨0, by omega, rfl, ⟨?_⟩, ⟨?_⟩, ⟨?_⟩, HX1⟩
      · have hlt := (Array.getElem?_eq_some_iff.1 HX.out).1
        rw [Below.heap_alloc _ _ _ (by simp; omega), Below.heap_alloc _ _ _ (by omega)]
        exact HX.out
      · have := heap_alloc_new (u.alloc (.cells Try.zeroCells93 93)) (.cells #[.pointer none, .pointer (some ⟨u.heap.size, 0, none⟩)] 70)
        simpa using this
      · exact noneL_box _ _ ((Below.refl _ _).alloc (Nat.le_refl _) _)
    case round =>
      obtain ⟨k, hk, rfl, HX, HP, HN0, HB⟩ := hrel
      by_cases hgo : k < 2
      · have hl0 := (Array.getElem?_eq_some_iff.1 HX.out).1
        have hl1 := (Array.getElem?_eq_some_iff.1 HP.out).1
        have HL0 := Aside0.mk hl0
        have HL1 := Aside0.mk hl1
        have c0 := cell_of_row _ (u.heap.size + 1) 0 _ _ _ HP.out
        have c1 := cell_of_row _ (u.heap.size + 1) 1 _ _ _ HP.out
        have z1 := cell_of_row _ w.heap.size 1 _ _ _ HX.out
        have z2 := cell_of_row _ w.heap.size 2 _ _ _ HX.out
        have z3 := cell_of_row _ w.heap.size 3 _ _ _ HX.out
        have z4 := cell_of_row _ w.heap.size 4 _ _ _ HX.out
        simp at c0 c1 z1 z2 z3 z4
        obtain ⟨p, hp⟩ : ∃ p : Option Addr, NoneL p wr ∧ wr.cell? ⟨u.heap.size + 1, k, none⟩ = some (.pointer p) := by
          rcases (show k = 0 ∨ k = 1 by omega) with rfl | rfl
          · exact ⟨_, noneL_nil wr, c0⟩
          · exact ⟨_, HN0.out, c1⟩
        obtain ⟨hp1, hp2⟩ := hp
        have HN := Aside0.mk hp1
        have HR := Aside0.mk (Below.refl wr.heap.size wr)
        clear hp1 c0 c1
        go_wp2_with (first
          | (go_at_call 51; (with_reducible refine (hear_none _ _ _ _ _ _ _ _ (HN.out.below HR.out)).mono ?_); rintro e w4 ⟨rfl, hb⟩; have h1 := Aside0.mk (below_step HR.out hb); obtain ⟨z1, z2, z3, z4⟩ : w4.cell? ⟨w.heap.size, 1, none⟩ = _ ∧ w4.cell? ⟨w.heap.size, 2, none⟩ = _ ∧ w4.cell? ⟨w.heap.size, 3, none⟩ = _ ∧ w4.cell? ⟨w.heap.size, 4, none⟩ = _ := ⟨pw_cell_below hb z1, pw_cell_below hb z2, pw_cell_below hb z3, pw_cell_below hb z4⟩; clear HR hb; have HR := h1; clear h1)
          | (go_at_call 59; (with_reducible refine (told_none _ _ _ _ _ (HN.out.below HR.out)).mono ?_); rintro e w4 ⟨rfl, hb⟩; have h1 := Aside0.mk (below_step HR.out hb); obtain ⟨z1, z2, z3, z4⟩ : w4.cell? ⟨w.heap.size, 1, none⟩ = _ ∧ w4.cell? ⟨w.heap.size, 2, none⟩ = _ ∧ w4.cell? ⟨w.heap.size, 3, none⟩ = _ ∧ w4.cell? ⟨w.heap.size, 4, none⟩ = _ := ⟨pw_cell_below hb z1, pw_cell_below hb z2, pw_cell_below hb z3, pw_cell_below hb z4⟩; clear HR hb; have HR := h1; clear h1)
          | (go_at_call 53; (with_reducible refine (decided_none _ _ (HN.out.below HR.out)).mono ?_); rintro e w4 ⟨rfl, hb⟩; have h1 := Aside0.mk (below_step HR.out hb); obtain ⟨z1, z2, z3, z4⟩ : w4.cell? ⟨w.heap.size, 1, none⟩ = _ ∧ w4.cell? ⟨w.heap.size, 2, none⟩ = _ ∧ w4.cell? ⟨w.heap.size, 3, none⟩ = _ ∧ w4.cell? ⟨w.heap.size, 4, none⟩ = _ := ⟨pw_cell_below hb z1, pw_cell_below hb z2, pw_cell_below hb z3, pw_cell_below hb z4⟩; clear HR hb; have HR := h1; clear h1)
          | (go_at_call 60; (with_reducible refine (heard_none _ _ _ (HN.out.below HR.out)).mono ?_); rintro e w4 ⟨rfl, hb⟩; have h1 := Aside0.mk (below_step HR.out hb); obtain ⟨z1, z2, z3, z4⟩ : w4.cell? ⟨w.heap.size, 1, none⟩ = _ ∧ w4.cell? ⟨w.heap.size, 2, none⟩ = _ ∧ w4.cell? ⟨w.heap.size, 3, none⟩ = _ ∧ w4.cell? ⟨w.heap.size, 4, none⟩ = _ := ⟨pw_cell_below hb z1, pw_cell_below hb z2, pw_cell_below hb z3, pw_cell_below hb z4⟩; clear HR hb; have HR := h1; clear h1))
        go_roundw
        case rel =>
          exact ⟨k + 1, by omega, by go_num, ⟨(HR.out.block _ HL0.out).trans HX.out⟩, ⟨(HR.out.block _ HL1.out).trans HP.out⟩, ⟨HN0.out.below HR.out⟩, ⟨below_step HB.out HR.out⟩⟩
        case measure => simp [intOf]; omega
      · obtain rfl : k = 2 := by omega
        go_wp2_with (go_at_call 49; (with_reducible refine (HAW.out _).mono ?_); rintro e v ⟨rfl, hb⟩; have h1 := Aside0.mk (below_step HB.out hb); clear HB hb; have HB := h1; clear h1)
        go_ret
        exact ⟨rfl, HB.out⟩
end Go.Proofs.Ytheafmjdncmpoaa
