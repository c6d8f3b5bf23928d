/-
  Digest: DigestOrder's walk.
-/
import Derived.Test.YtaaepadhapfkoaaDgA
import Derived.Test.YtaaepadhapfkoaaDgP
import Derived.Test.YtaaepadhapfkoaaDgV
import Derived.Test.YtaaepadhapfkoaaDgE
import Derived.Test.YtaaepadhapfkoaaDgW
namespace Go.Proofs.Ytaaepadhapfkoaa
set_option linter.unusedSimpArgs false
set_option linter.unusedVariables false
open Go.RowKit

set_option maxHeartbeats 1000000 in
set_option maxRecDepth 100000 in
theorem order_any (a b c : List Nat) (w : World) (ha : a.length = 32) (hb : b.length = 32) (hc : c.length = 32) (ha1 : ∀ x ∈ a, x < 256) (hb1 : ∀ x ∈ b, x < 256) (hc1 : ∀ x ∈ c, x < 256) :
    Calls Try.prog 3 #[.agg (cellsOf a).toArray, .agg (cellsOf b).toArray, .agg (cellsOf c).toArray] w fun e w' => e = .returned (.bool true) ∧ Below w.heap.size w w' := by
  have HL1 := Hf.mk (fun u => less_any a b u ha hb ha1 hb1)
  have HL2 := Hf.mk (fun u => less_any b a u hb ha hb1 ha1)
  have HL3 := Hf.mk (fun u => less_any b c u hb hc hb1 hc1)
  have HL4 := Hf.mk (fun u => less_any a c u ha hc ha1 hc1)
  have HG1 := Hf.mk (fun u => weigh_any a u ha ha1)
  have HG2 := Hf.mk (fun u => weigh_any b u hb hb1)
  have HT1 := Hf.mk (fun u => text_any a u ha ha1)
  have HT2 := Hf.mk (fun u => text_any b u hb hb1)
  have HEQ := Hf.mk (fun u => run_eql_ids a b u ha hb ha1 hb1)
  have HREL : Hf ((decide (cmpL a b < 0) = true ∧ decide (cmpL b a < 0) = false ∧ decide (a = b) = false ∧ num (a.take 8) ≤ num (b.take 8) ∧ Op.bytesLess (hexB a) (hexB b) = true ∧ (decide (cmpL b c < 0) = true → decide (cmpL a c < 0) = true)) ∨ (decide (cmpL a b < 0) = false ∧ decide (cmpL b a < 0) = false ∧ decide (a = b) = true ∧ Op.bytesLess (hexB a) (hexB b) = false) ∨ (decide (cmpL a b < 0) = false ∧ decide (cmpL b a < 0) = true ∧ decide (a = b) = false ∧ Op.bytesLess (hexB a) (hexB b) = false)) := ⟨by
    have hsw := cmpL_swap a b
    have hz0 := cmpL_zero a b
    have hrf : a = b → cmpL a b = 0 := fun e => by rw [e]; exact cmpL_refl b
    have htl := text_less a b (by rw [ha, hb]) ha1 hb1
    rcases Int.lt_trichotomy (cmpL a b) 0 with h0 | h0 | h0
    · refine .inl ⟨decide_eq_true h0, decide_eq_false (by rw [hsw]; omega), decide_eq_false (fun e => by have := hrf e; omega), weigh_le (by rw [ha, hb]) ha1 h0, by rw [htl]; exact decide_eq_true h0, fun h => decide_eq_true (cmpL_trans a b c h0 (of_decide_eq_true h))⟩
    · exact .inr (.inl ⟨decide_eq_false (by omega), decide_eq_false (by rw [hsw]; omega), decide_eq_true (hz0 h0), by rw [htl]; exact decide_eq_false (by omega)⟩)
    · exact .inr (.inr ⟨decide_eq_false (by omega), decide_eq_true (by rw [hsw]; omega), decide_eq_false (fun e => by have := hrf e; omega), by rw [htl]; exact decide_eq_false (by omega)⟩)⟩
  obtain ⟨l1, hl1⟩ : ∃ x, decide (cmpL a b < 0) = x := ⟨_, rfl⟩
  obtain ⟨l2, hl2⟩ : ∃ x, decide (cmpL b a < 0) = x := ⟨_, rfl⟩
  obtain ⟨l3, hl3⟩ : ∃ x, decide (cmpL b c < 0) = x := ⟨_, rfl⟩
  obtain ⟨l4, hl4⟩ : ∃ x, decide (cmpL a c < 0) = x := ⟨_, rfl⟩
  obtain ⟨l5, hl5⟩ : ∃ x, decide (a = b) = x := ⟨_, rfl⟩
  rw [hl1] at HL1 HREL
  rw [hl2] at HL2 HREL
  rw [hl3] at HL3 HREL
  rw [hl4] at HL4 HREL
  rw [hl5] at HEQ HREL
  clear hl1 hl2 hl3 hl4 hl5
  have hz1 : (cellsOf a).toArray.size = 32 := by rw [List.size_toArray, cellsOf_length, ha]
  have hz2 : (cellsOf b).toArray.size = 32 := by rw [List.size_toArray, cellsOf_length, hb]
  have hz3 : (cellsOf c).toArray.size = 32 := by rw [List.size_toArray, cellsOf_length, hc]
  generalize (cellsOf a).toArray = za at *
  generalize (cellsOf b).toArray = zb at *
  generalize (cellsOf c).toArray = zc at *
  have hq1 : ((w.alloc (.cells za 23)).alloc (.cells zb 23)).alloc (.cells zc 23) = ((w.alloc (.cells za 23)).alloc (.cells zb 23)).alloc (.cells zc 23) := rfl
  have h1 : (((w.alloc (.cells za 23)).alloc (.cells zb 23)).alloc (.cells zc 23)).heap[w.heap.size]? = some (.cells za 23) := by
    rw [Below.heap_alloc _ _ _ (by simp; omega), Below.heap_alloc _ _ _ (by simp)]; exact heap_alloc_new _ _
  have h2 : (((w.alloc (.cells za 23)).alloc (.cells zb 23)).alloc (.cells zc 23)).heap[w.heap.size + 1]? = some (.cells zb 23) := by
    have := heap_alloc_new (w.alloc (.cells za 23)) (.cells zb 23)
    rw [World.size_alloc] at this
    rw [Below.heap_alloc _ _ _ (by simp)]; exact this
  have h3 : (((w.alloc (.cells za 23)).alloc (.cells zb 23)).alloc (.cells zc 23)).heap[w.heap.size + 2]? = some (.cells zc 23) := by
    have := heap_alloc_new ((w.alloc (.cells za 23)).alloc (.cells zb 23)) (.cells zc 23)
    rw [World.size_alloc, World.size_alloc] at this
    exact this
  have hbw : Below w.heap.size w (((w.alloc (.cells za 23)).alloc (.cells zb 23)).alloc (.cells zc 23)) := (((Below.refl _ _).alloc (Nat.le_refl _) _).alloc (by simp) _).alloc (by simp; omega) _
  have H1 := Hf.mk h1
  have H2 := Hf.mk h2
  have H3 := Hf.mk h3
  have HB := Hf.mk hbw
  clear h1 h2 h3 hbw hq1 ha hb hc ha1 hb1 hc1
  have HA := Hf.mk awake_any
  go_enter Try.func3, Try.ntmps3
  go_wp2_with (go_at_call 13; refine (HA.out _).mono ?_; rintro e w1 ⟨rfl, hb1⟩; have HB1 := Hf.mk hb1; clear hb1)
  have HZ1 := Hf.mk hz1
  have HZ2 := Hf.mk hz2
  have HZ3 := Hf.mk hz3
  have HD1 : Hf (∀ W, Below w1.heap.size w1 W → W.heap[w.heap.size]? = some (.cells za 23)) := ⟨fun W hW => (hW.block _ (Nat.lt_of_lt_of_le (Array.getElem?_eq_some_iff.1 H1.out).1 HB1.out.size)).trans ((HB1.out.block _ (Array.getElem?_eq_some_iff.1 H1.out).1).trans H1.out)⟩
  have HD2 : Hf (∀ W, Below w1.heap.size w1 W → W.heap[w.heap.size + 1]? = some (.cells zb 23)) := ⟨fun W hW => (hW.block _ (Nat.lt_of_lt_of_le (Array.getElem?_eq_some_iff.1 H2.out).1 HB1.out.size)).trans ((HB1.out.block _ (Array.getElem?_eq_some_iff.1 H2.out).1).trans H2.out)⟩
  have HD3 : Hf (∀ W, Below w1.heap.size w1 W → W.heap[w.heap.size + 1 + 1]? = some (.cells zc 23)) := ⟨fun W hW => (hW.block _ (Nat.lt_of_lt_of_le (Array.getElem?_eq_some_iff.1 H3.out).1 HB1.out.size)).trans ((HB1.out.block _ (Array.getElem?_eq_some_iff.1 H3.out).1).trans H3.out)⟩
  have HE14 : Hf (∀ args u, (callFunc 14 args).run Try.prog u = .ok (.enter 14 args) u) := ⟨enters_of Try.func14 (by kernel_rfl) rfl⟩
  clear H1 H2 H3 hz1 hz2 hz3
  refine wp_region_quiet (C := fun W' => Below w1.heap.size w1 W') (by kernel_rfl) (by kernel_rfl) (Below.refl _ _).drew ?_
  simp only [List.toList_toArray]
  refine qstep_load (by simp [Region.wanted]) 23 (.tmp 3) rfl _ rfl 23 za (0, 0) _ HD1.out Try.underlying23 rfl (size23.trans (by rw [HZ1.out])) ?_
  refine qstep_load (by simp [Region.wanted]) 23 (.tmp 4) rfl _ rfl 23 zb (0, 0) _ HD2.out Try.underlying23 rfl (size23.trans (by rw [HZ2.out])) ?_
  refine qstep_call (by simp [Region.wanted]) 14 #[.tmp 11, .tmp 12] #[23, 23] rfl #[.agg za, .agg zb] (by simp [Act.eval, Act.put]) (.bool l1) HE14.out (fun W hW => (HL1.out W).mono fun e w'' h => ⟨h.1, below_step hW h.2⟩) ?_
  refine qstep_load (by simp [Region.wanted]) 23 (.tmp 4) rfl _ rfl 23 zb (0, 0) _ HD2.out Try.underlying23 rfl (size23.trans (by rw [HZ2.out])) ?_
  refine qstep_load (by simp [Region.wanted]) 23 (.tmp 3) rfl _ rfl 23 za (0, 0) _ HD1.out Try.underlying23 rfl (size23.trans (by rw [HZ1.out])) ?_
  refine qstep_call (by simp [Region.wanted]) 14 #[.tmp 14, .tmp 15] #[23, 23] rfl #[.agg zb, .agg za] (by simp [Act.eval, Act.put]) (.bool l2) HE14.out (fun W hW => (HL2.out W).mono fun e w'' h => ⟨h.1, below_step hW h.2⟩) ?_
  refine wpQuiet_step (fun K hK => ?_)
  go_simp
  refine ⟨_, fun _ _ => rfl, hK _ ?_⟩
  clear hK K
  refine wpQuiet_step (fun K hK => ?_)
  go_simp
  refine ⟨_, fun _ _ => rfl, hK _ ?_⟩
  clear hK K
  refine wpQuiet_nil ?_
  intro w2 hW2
  have HX1 := Hf.mk (HD1.out w2 hW2)
  have HX2 := Hf.mk (HD2.out w2 hW2)
  have HX3' := Hf.mk (HD3.out w2 hW2)
  have HW2 := Hf.mk (below_step (below_step HB.out HB1.out) hW2)
  clear hW2
  have HY1 : Hf (∀ W, Below w2.heap.size w2 W → W.heap[w.heap.size]? = some (.cells za 23)) := ⟨fun W hW => (hW.block _ (Array.getElem?_eq_some_iff.1 HX1.out).1).trans HX1.out⟩
  have HY2 : Hf (∀ W, Below w2.heap.size w2 W → W.heap[w.heap.size + 1]? = some (.cells zb 23)) := ⟨fun W hW => (hW.block _ (Array.getElem?_eq_some_iff.1 HX2.out).1).trans HX2.out⟩
  have HE15 : Hf (∀ args u, (callFunc 15 args).run Try.prog u = .ok (.enter 15 args) u) := ⟨enters_of Try.func15 (by kernel_rfl) rfl⟩
  have HE16 : Hf (∀ args u, (callFunc 16 args).run Try.prog u = .ok (.enter 16 args) u) := ⟨enters_of Try.func16 (by kernel_rfl) rfl⟩
  have heq := HEQ.out
  rcases HREL.out with ⟨rfl, rfl, rfl, h1, h2, h3⟩ | ⟨rfl, rfl, rfl, h2⟩ | ⟨rfl, rfl, rfl, h2⟩
  · have HX3 := Hf.mk HX3'.out
    cases l3 with
    | false =>
      go_wp2_with (first
        | (refine wpList_load_rowW rfl 23 (.tmp 3) rfl _ rfl 23 za (0, 0) _ HX1.out Try.underlying23 rfl (size23.trans (by rw [HZ1.out])) ?_)
        | (refine wpList_load_rowW rfl 23 (.tmp 4) rfl _ rfl 23 zb (0, 0) _ HX2.out Try.underlying23 rfl (size23.trans (by rw [HZ2.out])) ?_)
        | (refine wpList_load_rowW rfl 23 (.tmp 5) rfl _ rfl 23 zc (0, 0) _ HX3.out Try.underlying23 rfl (size23.trans (by rw [HZ3.out])) ?_)
        | (go_at_call 14; refine (HL3.out _).mono ?_; rintro e w3 ⟨rfl, hb3⟩; have HB3 := Hf.mk hb3; clear hb3))
      have hd : decide (((num (a.take 8) : Nat) : Int) ≤ ((num (b.take 8) : Nat) : Int)) = true := decide_eq_true (by exact_mod_cast h1)
      refine wp_region_quiet (C := fun W' => Below w2.heap.size w2 W') (by kernel_rfl) (by kernel_rfl) (HB3.out).drew ?_
      simp only [List.toList_toArray]
      (go_big_quiet_want; go_big_quiet_op; first | go_big_quiet_on | (refine ⟨_, fun _ _ => rfl, ?_⟩; go_big_quiet_on))
      (go_big_quiet_want; go_big_quiet_op; first | go_big_quiet_on | (refine ⟨_, fun _ _ => rfl, ?_⟩; go_big_quiet_on))
      (go_big_quiet_want; go_big_quiet_op; first | go_big_quiet_on | (refine ⟨_, fun _ _ => rfl, ?_⟩; go_big_quiet_on))
      (go_big_quiet_want; go_big_quiet_op; first | go_big_quiet_on | (refine ⟨_, fun _ _ => rfl, ?_⟩; go_big_quiet_on))
      (go_big_quiet_want; go_big_quiet_op; first | go_big_quiet_on | (refine ⟨_, fun _ _ => rfl, ?_⟩; go_big_quiet_on))
      refine qstep_load (by rfl) 23 (.tmp 3) rfl _ rfl 23 za (0, 0) _ HY1.out Try.underlying23 rfl (size23.trans (by rw [HZ1.out])) ?_
      refine qstep_call (by rfl) 15 #[.tmp 50] #[23] rfl #[.agg za] (by simp [Act.eval, Act.put]) (.int .u64 (num (a.take 8))) HE15.out (fun W hW => (HG1.out W).mono fun e w'' h => ⟨h.1, below_step hW h.2⟩) ?_
      refine qstep_load (by rfl) 23 (.tmp 4) rfl _ rfl 23 zb (0, 0) _ HY2.out Try.underlying23 rfl (size23.trans (by rw [HZ2.out])) ?_
      refine qstep_call (by rfl) 15 #[.tmp 52] #[23] rfl #[.agg zb] (by simp [Act.eval, Act.put]) (.int .u64 (num (b.take 8))) HE15.out (fun W hW => (HG2.out W).mono fun e w'' h => ⟨h.1, below_step hW h.2⟩) ?_
      (refine wpQuiet_step (fun K hK => ?_); go_simp; refine ⟨_, fun _ _ => rfl, hK _ ?_⟩; clear hK K)
      try rw [hd]
      (go_big_quiet_want; go_big_quiet_op; first | go_big_quiet_on | (refine ⟨_, fun _ _ => rfl, ?_⟩; go_big_quiet_on))
      (go_big_quiet_want; go_big_quiet_op; first | go_big_quiet_on | (refine ⟨_, fun _ _ => rfl, ?_⟩; go_big_quiet_on))
      (go_big_quiet_want; go_big_quiet_op; first | go_big_quiet_on | (refine ⟨_, fun _ _ => rfl, ?_⟩; go_big_quiet_on))
      (go_big_quiet_want; go_big_quiet_op; first | go_big_quiet_on | (refine ⟨_, fun _ _ => rfl, ?_⟩; go_big_quiet_on))
      refine qstep_load (by rfl) 23 (.tmp 3) rfl _ rfl 23 za (0, 0) _ HY1.out Try.underlying23 rfl (size23.trans (by rw [HZ1.out])) ?_
      refine qstep_call (by rfl) 16 #[.tmp 59] #[23] rfl #[.agg za] (by simp [Act.eval, Act.put]) (.string ⟨(hexB a).toArray⟩) HE16.out (fun W hW => (HT1.out W).mono fun e w'' h => ⟨h.1, below_step hW h.2⟩) ?_
      refine qstep_load (by rfl) 23 (.tmp 4) rfl _ rfl 23 zb (0, 0) _ HY2.out Try.underlying23 rfl (size23.trans (by rw [HZ2.out])) ?_
      refine qstep_call (by rfl) 16 #[.tmp 61] #[23] rfl #[.agg zb] (by simp [Act.eval, Act.put]) (.string ⟨(hexB b).toArray⟩) HE16.out (fun W hW => (HT2.out W).mono fun e w'' h => ⟨h.1, below_step hW h.2⟩) ?_
      (refine wpQuiet_step (fun K hK => ?_); go_simp; refine ⟨_, fun _ _ => rfl, hK _ ?_⟩; clear hK K)
      try rw [h2]
      (go_big_quiet_want; go_big_quiet_op; first | go_big_quiet_on | (refine ⟨_, fun _ _ => rfl, ?_⟩; go_big_quiet_on))
      (go_big_quiet_want; go_big_quiet_op; first | go_big_quiet_on | (refine ⟨_, fun _ _ => rfl, ?_⟩; go_big_quiet_on))
      (go_big_quiet_want; go_big_quiet_op; first | go_big_quiet_on | (refine ⟨_, fun _ _ => rfl, ?_⟩; go_big_quiet_on))
      refine wpQuiet_nil ?_
      intro w9 hW9
      have HW9 := Hf.mk (below_step HW2.out hW9)
      clear hW9
      go_wp2
      exact ⟨rfl, _, results_tmp rfl _ _ _, rfl, HW9.out⟩
    | true =>
      obtain rfl := h3 rfl
      go_wp2_with (first
        | (refine wpList_load_rowW rfl 23 (.tmp 3) rfl _ rfl 23 za (0, 0) _ HX1.out Try.underlying23 rfl (size23.trans (by rw [HZ1.out])) ?_)
        | (refine wpList_load_rowW rfl 23 (.tmp 4) rfl _ rfl 23 zb (0, 0) _ HX2.out Try.underlying23 rfl (size23.trans (by rw [HZ2.out])) ?_)
        | (refine wpList_load_rowW rfl 23 (.tmp 5) rfl _ rfl 23 zc (0, 0) _ HX3.out Try.underlying23 rfl (size23.trans (by rw [HZ3.out])) ?_)
        | (go_at_call 14; (with_reducible refine (HL3.out _).mono ?_); rintro e w3 ⟨rfl, hb3⟩; have HX1b := Hf.mk ((hb3.block _ (Array.getElem?_eq_some_iff.1 HX1.out).1).trans HX1.out); have HX3b := Hf.mk ((hb3.block _ (Array.getElem?_eq_some_iff.1 HX3.out).1).trans HX3.out); have HB3 := Hf.mk hb3; clear hb3)
        | (refine wpList_load_rowW rfl 23 (.tmp 3) rfl _ rfl 23 za (0, 0) _ HX1b.out Try.underlying23 rfl (size23.trans (by rw [HZ1.out])) ?_)
        | (refine wpList_load_rowW rfl 23 (.tmp 5) rfl _ rfl 23 zc (0, 0) _ HX3b.out Try.underlying23 rfl (size23.trans (by rw [HZ3.out])) ?_)
        | (go_at_call 14; (with_reducible refine (HL4.out _).mono ?_); rintro e w4 ⟨rfl, hb4⟩; have HB4 := Hf.mk hb4; clear hb4))
      have hd : decide (((num (a.take 8) : Nat) : Int) ≤ ((num (b.take 8) : Nat) : Int)) = true := decide_eq_true (by exact_mod_cast h1)
      refine wp_region_quiet (C := fun W' => Below w2.heap.size w2 W') (by kernel_rfl) (by kernel_rfl) (below_step HB3.out HB4.out).drew ?_
      simp only [List.toList_toArray]
      (go_big_quiet_want; go_big_quiet_op; first | go_big_quiet_on | (refine ⟨_, fun _ _ => rfl, ?_⟩; go_big_quiet_on))
      (go_big_quiet_want; go_big_quiet_op; first | go_big_quiet_on | (refine ⟨_, fun _ _ => rfl, ?_⟩; go_big_quiet_on))
      (go_big_quiet_want; go_big_quiet_op; first | go_big_quiet_on | (refine ⟨_, fun _ _ => rfl, ?_⟩; go_big_quiet_on))
      (go_big_quiet_want; go_big_quiet_op; first | go_big_quiet_on | (refine ⟨_, fun _ _ => rfl, ?_⟩; go_big_quiet_on))
      (go_big_quiet_want; go_big_quiet_op; first | go_big_quiet_on | (refine ⟨_, fun _ _ => rfl, ?_⟩; go_big_quiet_on))
      refine qstep_load (by rfl) 23 (.tmp 3) rfl _ rfl 23 za (0, 0) _ HY1.out Try.underlying23 rfl (size23.trans (by rw [HZ1.out])) ?_
      refine qstep_call (by rfl) 15 #[.tmp 50] #[23] rfl #[.agg za] (by simp [Act.eval, Act.put]) (.int .u64 (num (a.take 8))) HE15.out (fun W hW => (HG1.out W).mono fun e w'' h => ⟨h.1, below_step hW h.2⟩) ?_
      refine qstep_load (by rfl) 23 (.tmp 4) rfl _ rfl 23 zb (0, 0) _ HY2.out Try.underlying23 rfl (size23.trans (by rw [HZ2.out])) ?_
      refine qstep_call (by rfl) 15 #[.tmp 52] #[23] rfl #[.agg zb] (by simp [Act.eval, Act.put]) (.int .u64 (num (b.take 8))) HE15.out (fun W hW => (HG2.out W).mono fun e w'' h => ⟨h.1, below_step hW h.2⟩) ?_
      (refine wpQuiet_step (fun K hK => ?_); go_simp; refine ⟨_, fun _ _ => rfl, hK _ ?_⟩; clear hK K)
      try rw [hd]
      (go_big_quiet_want; go_big_quiet_op; first | go_big_quiet_on | (refine ⟨_, fun _ _ => rfl, ?_⟩; go_big_quiet_on))
      (go_big_quiet_want; go_big_quiet_op; first | go_big_quiet_on | (refine ⟨_, fun _ _ => rfl, ?_⟩; go_big_quiet_on))
      (go_big_quiet_want; go_big_quiet_op; first | go_big_quiet_on | (refine ⟨_, fun _ _ => rfl, ?_⟩; go_big_quiet_on))
      (go_big_quiet_want; go_big_quiet_op; first | go_big_quiet_on | (refine ⟨_, fun _ _ => rfl, ?_⟩; go_big_quiet_on))
      refine qstep_load (by rfl) 23 (.tmp 3) rfl _ rfl 23 za (0, 0) _ HY1.out Try.underlying23 rfl (size23.trans (by rw [HZ1.out])) ?_
      refine qstep_call (by rfl) 16 #[.tmp 59] #[23] rfl #[.agg za] (by simp [Act.eval, Act.put]) (.string ⟨(hexB a).toArray⟩) HE16.out (fun W hW => (HT1.out W).mono fun e w'' h => ⟨h.1, below_step hW h.2⟩) ?_
      refine qstep_load (by rfl) 23 (.tmp 4) rfl _ rfl 23 zb (0, 0) _ HY2.out Try.underlying23 rfl (size23.trans (by rw [HZ2.out])) ?_
      refine qstep_call (by rfl) 16 #[.tmp 61] #[23] rfl #[.agg zb] (by simp [Act.eval, Act.put]) (.string ⟨(hexB b).toArray⟩) HE16.out (fun W hW => (HT2.out W).mono fun e w'' h => ⟨h.1, below_step hW h.2⟩) ?_
      (refine wpQuiet_step (fun K hK => ?_); go_simp; refine ⟨_, fun _ _ => rfl, hK _ ?_⟩; clear hK K)
      try rw [h2]
      (go_big_quiet_want; go_big_quiet_op; first | go_big_quiet_on | (refine ⟨_, fun _ _ => rfl, ?_⟩; go_big_quiet_on))
      (go_big_quiet_want; go_big_quiet_op; first | go_big_quiet_on | (refine ⟨_, fun _ _ => rfl, ?_⟩; go_big_quiet_on))
      (go_big_quiet_want; go_big_quiet_op; first | go_big_quiet_on | (refine ⟨_, fun _ _ => rfl, ?_⟩; go_big_quiet_on))
      refine wpQuiet_nil ?_
      intro w9 hW9
      have HW9 := Hf.mk (below_step HW2.out hW9)
      clear hW9
      go_wp2
      exact ⟨rfl, _, results_tmp rfl _ _ _, rfl, HW9.out⟩
  · go_wp2_with (first
      | (refine wpList_load_rowW rfl 23 (.tmp 3) rfl _ rfl 23 za (0, 0) _ HX1.out Try.underlying23 rfl (size23.trans (by rw [HZ1.out])) ?_)
      | (refine wpList_load_rowW rfl 23 (.tmp 4) rfl _ rfl 23 zb (0, 0) _ HX2.out Try.underlying23 rfl (size23.trans (by rw [HZ2.out])) ?_))
    refine wp_region_quiet (C := fun W' => Below w2.heap.size w2 W') (by kernel_rfl) (by kernel_rfl) (Below.refl _ _).drew ?_
    simp only [List.toList_toArray]
    (go_big_quiet_want; go_big_quiet_op; first | go_big_quiet_on | (refine ⟨_, fun _ _ => rfl, ?_⟩; go_big_quiet_on))
    (go_big_quiet_want; go_big_quiet_op; first | go_big_quiet_on | (refine ⟨_, fun _ _ => rfl, ?_⟩; go_big_quiet_on))
    (go_big_quiet_want; go_big_quiet_op; first | go_big_quiet_on | (refine ⟨_, fun _ _ => rfl, ?_⟩; go_big_quiet_on))
    (go_big_quiet_want; go_big_quiet_op; first | go_big_quiet_on | (refine ⟨_, fun _ _ => rfl, ?_⟩; go_big_quiet_on))
    (go_big_quiet_want; go_big_quiet_op; first | go_big_quiet_on | (refine ⟨_, fun _ _ => rfl, ?_⟩; go_big_quiet_on))
    go_big_quiet_skip
    go_big_quiet_skip
    go_big_quiet_skip
    go_big_quiet_skip
    go_big_quiet_skip
    (go_big_quiet_want; go_big_quiet_op; first | go_big_quiet_on | (refine ⟨_, fun _ _ => rfl, ?_⟩; go_big_quiet_on))
    (go_big_quiet_want; go_big_quiet_op; first | go_big_quiet_on | (refine ⟨_, fun _ _ => rfl, ?_⟩; go_big_quiet_on))
    (go_big_quiet_want; go_big_quiet_op; first | go_big_quiet_on | (refine ⟨_, fun _ _ => rfl, ?_⟩; go_big_quiet_on))
    (go_big_quiet_want; go_big_quiet_op; first | go_big_quiet_on | (refine ⟨_, fun _ _ => rfl, ?_⟩; go_big_quiet_on))
    refine qstep_load (by rfl) 23 (.tmp 3) rfl _ rfl 23 za (0, 0) _ HY1.out Try.underlying23 rfl (size23.trans (by rw [HZ1.out])) ?_
    refine qstep_call (by rfl) 16 #[.tmp 59] #[23] rfl #[.agg za] (by simp [Act.eval, Act.put]) (.string ⟨(hexB a).toArray⟩) HE16.out (fun W hW => (HT1.out W).mono fun e w'' h => ⟨h.1, below_step hW h.2⟩) ?_
    refine qstep_load (by rfl) 23 (.tmp 4) rfl _ rfl 23 zb (0, 0) _ HY2.out Try.underlying23 rfl (size23.trans (by rw [HZ2.out])) ?_
    refine qstep_call (by rfl) 16 #[.tmp 61] #[23] rfl #[.agg zb] (by simp [Act.eval, Act.put]) (.string ⟨(hexB b).toArray⟩) HE16.out (fun W hW => (HT2.out W).mono fun e w'' h => ⟨h.1, below_step hW h.2⟩) ?_
    (refine wpQuiet_step (fun K hK => ?_); go_simp; refine ⟨_, fun _ _ => rfl, hK _ ?_⟩; clear hK K)
    try rw [h2]
    (go_big_quiet_want; go_big_quiet_op; first | go_big_quiet_on | (refine ⟨_, fun _ _ => rfl, ?_⟩; go_big_quiet_on))
    (go_big_quiet_want; go_big_quiet_op; first | go_big_quiet_on | (refine ⟨_, fun _ _ => rfl, ?_⟩; go_big_quiet_on))
    (go_big_quiet_want; go_big_quiet_op; first | go_big_quiet_on | (refine ⟨_, fun _ _ => rfl, ?_⟩; go_big_quiet_on))
    refine wpQuiet_nil ?_
    intro w9 hW9
    have HW9 := Hf.mk (below_step HW2.out hW9)
    clear hW9
    go_wp2
    exact ⟨rfl, _, results_tmp rfl _ _ _, rfl, HW9.out⟩
  · go_wp2_with (first
      | (refine wpList_load_rowW rfl 23 (.tmp 3) rfl _ rfl 23 za (0, 0) _ HX1.out Try.underlying23 rfl (size23.trans (by rw [HZ1.out])) ?_)
      | (refine wpList_load_rowW rfl 23 (.tmp 4) rfl _ rfl 23 zb (0, 0) _ HX2.out Try.underlying23 rfl (size23.trans (by rw [HZ2.out])) ?_))
    refine wp_region_quiet (C := fun W' => Below w2.heap.size w2 W') (by kernel_rfl) (by kernel_rfl) (Below.refl _ _).drew ?_
    simp only [List.toList_toArray]
    (go_big_quiet_want; go_big_quiet_op; first | go_big_quiet_on | (refine ⟨_, fun _ _ => rfl, ?_⟩; go_big_quiet_on))
    (go_big_quiet_want; go_big_quiet_op; first | go_big_quiet_on | (refine ⟨_, fun _ _ => rfl, ?_⟩; go_big_quiet_on))
    (go_big_quiet_want; go_big_quiet_op; first | go_big_quiet_on | (refine ⟨_, fun _ _ => rfl, ?_⟩; go_big_quiet_on))
    (go_big_quiet_want; go_big_quiet_op; first | go_big_quiet_on | (refine ⟨_, fun _ _ => rfl, ?_⟩; go_big_quiet_on))
    (go_big_quiet_want; go_big_quiet_op; first | go_big_quiet_on | (refine ⟨_, fun _ _ => rfl, ?_⟩; go_big_quiet_on))
    go_big_quiet_skip
    go_big_quiet_skip
    go_big_quiet_skip
    go_big_quiet_skip
    go_big_quiet_skip
    (go_big_quiet_want; go_big_quiet_op; first | go_big_quiet_on | (refine ⟨_, fun _ _ => rfl, ?_⟩; go_big_quiet_on))
    (go_big_quiet_want; go_big_quiet_op; first | go_big_quiet_on | (refine ⟨_, fun _ _ => rfl, ?_⟩; go_big_quiet_on))
    (go_big_quiet_want; go_big_quiet_op; first | go_big_quiet_on | (refine ⟨_, fun _ _ => rfl, ?_⟩; go_big_quiet_on))
    (go_big_quiet_want; go_big_quiet_op; first | go_big_quiet_on | (refine ⟨_, fun _ _ => rfl, ?_⟩; go_big_quiet_on))
    refine qstep_load (by rfl) 23 (.tmp 3) rfl _ rfl 23 za (0, 0) _ HY1.out Try.underlying23 rfl (size23.trans (by rw [HZ1.out])) ?_
    refine qstep_call (by rfl) 16 #[.tmp 59] #[23] rfl #[.agg za] (by simp [Act.eval, Act.put]) (.string ⟨(hexB a).toArray⟩) HE16.out (fun W hW => (HT1.out W).mono fun e w'' h => ⟨h.1, below_step hW h.2⟩) ?_
    refine qstep_load (by rfl) 23 (.tmp 4) rfl _ rfl 23 zb (0, 0) _ HY2.out Try.underlying23 rfl (size23.trans (by rw [HZ2.out])) ?_
    refine qstep_call (by rfl) 16 #[.tmp 61] #[23] rfl #[.agg zb] (by simp [Act.eval, Act.put]) (.string ⟨(hexB b).toArray⟩) HE16.out (fun W hW => (HT2.out W).mono fun e w'' h => ⟨h.1, below_step hW h.2⟩) ?_
    (refine wpQuiet_step (fun K hK => ?_); go_simp; refine ⟨_, fun _ _ => rfl, hK _ ?_⟩; clear hK K)
    try rw [h2]
    (go_big_quiet_want; go_big_quiet_op; first | go_big_quiet_on | (refine ⟨_, fun _ _ => rfl, ?_⟩; go_big_quiet_on))
    (go_big_quiet_want; go_big_quiet_op; first | go_big_quiet_on | (refine ⟨_, fun _ _ => rfl, ?_⟩; go_big_quiet_on))
    (go_big_quiet_want; go_big_quiet_op; first | go_big_quiet_on | (refine ⟨_, fun _ _ => rfl, ?_⟩; go_big_quiet_on))
    refine wpQuiet_nil ?_
    intro w9 hW9
    have HW9 := Hf.mk (below_step HW2.out hW9)
    clear hW9
    go_wp2
    exact ⟨rfl, _, results_tmp rfl _ _ _, rfl, HW9.out⟩
theorem digestOrder_walk (a b c : List Nat) (W : World) (ha : a.length = 32) (ha1 : ∀ x ∈ a, x < 256) (hb : b.length = 32) (hb1 : ∀ x ∈ b, x < 256) (hc : c.length = 32) (hc1 : ∀ x ∈ c, x < 256) :
    Calls Try.prog 3 #[.agg (cellsOf a).toArray, .agg (cellsOf b).toArray, .agg (cellsOf c).toArray] W fun e w' => e = .returned (.bool true) ∧ Below W.heap.size W w' := order_any a b c W ha hb hc ha1 hb1 hc1
end Go.Proofs.Ytaaepadhapfkoaa
