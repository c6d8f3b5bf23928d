/-
  Digest: DigestTexts' walk.
-/
import Derived.Test.YtaaepadhapfkoaaDgA
import Derived.Test.YtaaepadhapfkoaaDgV
import Derived.Test.YtaaepadhapfkoaaDgE
import Derived.Test.YtaaepadhapfkoaaDgW
import Derived.Test.YtaaepadhapfkoaaDgK
namespace Go.Proofs.Ytaaepadhapfkoaa
set_option linter.unusedSimpArgs false
set_option linter.unusedVariables false
open Go.RowKit

theorem texts_kept2 {w2 w3 w4 : World} {g : Nat} {o : Obj} (h3 : Below w2.heap.size w2 w3) (h4 : Below w3.heap.size w3 w4) (h : w2.heap[g]? = some o) : w4.heap[g]? = some o := by
  have l := (Array.getElem?_eq_some_iff.1 h).1
  exact (h4.block _ (Nat.lt_of_lt_of_le l h3.size)).trans ((h3.block _ l).trans h)
theorem texts_kept {W w1 w2 w3 w4 : World} {g : Nat} {o : Obj} (h1 : Below W.heap.size W w1) (h2 : Below w1.heap.size w1 w2) (h3 : Below w2.heap.size w2 w3) (h4 : Below w3.heap.size w3 w4) (h : W.heap[g]? = some o) : w4.heap[g]? = some o :=
  texts_kept2 h3 h4 (texts_kept2 h1 h2 h)
set_option maxHeartbeats 2000000 in
set_option maxRecDepth 100000 in
theorem texts_any (a b : List Nat) (s : ByteArray) (w : World) (ha : a.length = 32) (hb : b.length = 32) (ha1 : ∀ x ∈ a, x < 256) (hb1 : ∀ x ∈ b, x < 256) :
    Calls Try.prog 4 #[.agg (cellsOf a).toArray, .agg (cellsOf b).toArray, .string s] w fun e w' => e = .returned (.bool true) ∧ Below w.heap.size w w' := by
  have HLS := Hf.mk (fun u => less_any a b u ha hb ha1 hb1)
  have HLR := Hf.mk (fun u => lessR_any a b u ha hb ha1 hb1)
  have HWG := Hf.mk (fun u => weigh_any a u ha ha1)
  have HWR := Hf.mk (fun u => weighR_any a u ha ha1)
  have HT := Hf.mk (fun u => text_any a u ha ha1)
  have HTR := Hf.mk (fun u => textR_any a u ha ha1)
  have HG := Hf.mk (fun u => get_any s u)
  have HGR := Hf.mk (fun u => getR_any s u)
  have HFIT := getS_fit (bytN s)
  generalize getS (bytN s) = g at HG HGR HFIT
  obtain ⟨gl, ge⟩ := g
  dsimp only at HG HGR HFIT
  have heq := fun u => run_eql_ids gl gl u HFIT.1 HFIT.1 HFIT.2 HFIT.2
  rw [decide_eq_true (rfl : gl = gl)] at heq
  have hz1 : (cellsOf a).toArray.size = 32 := by rw [List.size_toArray, cellsOf_length, ha]
  have hz2 : (cellsOf b).toArray.size = 32 := by rw [List.size_toArray, cellsOf_length, hb]
  have hz3 : (cellsOf gl).toArray.size = 32 := by rw [List.size_toArray, cellsOf_length, HFIT.1]
  have hz4 : (cellsOf gl).toArray.all (·.oneCell') = true := by
    rw [Array.all_eq_true']
    intro v hv
    exact cellsOf_one _ v (by simpa using hv)
  generalize (cellsOf a).toArray = za at *
  generalize (cellsOf b).toArray = zb at *
  generalize (cellsOf gl).toArray = zx at *
  generalize (⟨(hexB a).toArray⟩ : ByteArray) = tx at *
  generalize ((num (a.take 8) : Nat) : Int) = wt at *
  generalize decide (cmpL a b < 0) = lt at *
  have h1 : ((w.alloc (.cells za 23)).alloc (.cells zb 23)).heap[w.heap.size]? = some (.cells za 23) := by
    rw [Below.heap_alloc _ _ _ (by simp)]; exact heap_alloc_new _ _
  have h2 : ((w.alloc (.cells za 23)).alloc (.cells zb 23)).heap[w.heap.size + 1]? = some (.cells zb 23) := by
    have := heap_alloc_new (w.alloc (.cells za 23)) (.cells zb 23)
    rw [World.size_alloc] at this
    exact this
  have HB : Hf (Below w.heap.size w ((w.alloc (.cells za 23)).alloc (.cells zb 23))) := ⟨((Below.refl _ _).alloc (Nat.le_refl _) _).alloc (by simp) _⟩
  have H1 := Hf.mk h1
  have H2 := Hf.mk h2
  have HZ1 := Hf.mk hz1
  have HZ2 := Hf.mk hz2
  have HZ3 := Hf.mk hz3
  have HZ4 := Hf.mk hz4
  have HEQ := Hf.mk heq
  clear h1 h2 ha hb ha1 hb1 hz1 hz2 hz3 hz4 HFIT heq
  have HA := Hf.mk awake_any
  have HE13 : Hf (∀ args u, (callFunc 13 args).run Try.prog u = .ok (.enter 13 args) u) := ⟨enters_of Try.func13 (by kernel_rfl) rfl⟩
  have HE14 : Hf (∀ args u, (callFunc 14 args).run Try.prog u = .ok (.enter 14 args) u) := ⟨enters_of Try.func14 (by kernel_rfl) rfl⟩
  have HE15 : Hf (∀ args u, (callFunc 15 args).run Try.prog u = .ok (.enter 15 args) u) := ⟨enters_of Try.func15 (by kernel_rfl) rfl⟩
  have HE16 : Hf (∀ args u, (callFunc 16 args).run Try.prog u = .ok (.enter 16 args) u) := ⟨enters_of Try.func16 (by kernel_rfl) rfl⟩
  have HE19 : Hf (∀ args u, (callFunc 19 args).run Try.prog u = .ok (.enter 19 args) u) := ⟨enters_of Try.func19 (by kernel_rfl) rfl⟩
  have HE20 : Hf (∀ args u, (callFunc 20 args).run Try.prog u = .ok (.enter 20 args) u) := ⟨enters_of Try.func20 (by kernel_rfl) rfl⟩
  have HE21 : Hf (∀ args u, (callFunc 21 args).run Try.prog u = .ok (.enter 21 args) u) := ⟨enters_of Try.func21 (by kernel_rfl) rfl⟩
  go_enter Try.func4, Try.ntmps4
  go_upto_region 1 with fail
  generalize (w.alloc (.cells za 23)).alloc (.cells zb 23) = W at H1 H2 HB ⊢
  by_cases hs : s.size ≤ 100
  · have hs' : ¬ (100 : Int) < (s.size : Int) := by omega
    clear hs
    have tok1 : True := trivial
    go_upto_region 3 with fail
    go_wp2_with (first
      | (go_at_call 17; (with_reducible refine (HG.out _).mono ?_); rintro e w1 ⟨rfl, hb1⟩; have HB1 := Hf.mk hb1; clear hb1)
      | (refine wpList_store_row rfl 23 (.tmp 7) (.tmp 18) rfl w1.heap.size zx rfl rfl 23 z32 (heap_alloc_new w1 (.cells z32 23)) (size23.trans (by rw [HZ3.out])) (by rw [HZ3.out]; rfl) HZ4.out ?_; rw [setRow_alloc]; have HN1 := Hf.mk (heap_alloc_new w1 (.cells zx 23)); have HM1 : Hf (Below w1.heap.size w1 (w1.alloc (.cells zx 23))) := ⟨(Below.refl _ _).alloc (Nat.le_refl _) _⟩; generalize w1.alloc (.cells zx 23) = w2 at HN1 HM1 ⊢)
      | (go_at_call 18; (with_reducible refine (HGR.out _).mono ?_); rintro e w3 ⟨rfl, hb3⟩; have HB3 := Hf.mk hb3; clear hb3)
      | (refine wpList_store_row rfl 23 (.tmp 9) (.tmp 23) rfl w3.heap.size zx rfl rfl 23 z32 (heap_alloc_new w3 (.cells z32 23)) (size23.trans (by rw [HZ3.out])) (by rw [HZ3.out]; rfl) HZ4.out ?_; rw [setRow_alloc]; have HN2 := Hf.mk (heap_alloc_new w3 (.cells zx 23)); have HM2 : Hf (Below w3.heap.size w3 (w3.alloc (.cells zx 23))) := ⟨(Below.refl _ _).alloc (Nat.le_refl _) _⟩; generalize w3.alloc (.cells zx 23) = w4 at HN2 HM2 ⊢))
    have HX1 := Hf.mk (texts_kept HB1.out HM1.out HB3.out HM2.out H1.out)
    have HX2 := Hf.mk (texts_kept HB1.out HM1.out HB3.out HM2.out H2.out)
    have HX3 : Hf (w4.heap[w1.heap.size]? = some (.cells zx 23)) := ⟨texts_kept2 HB3.out HM2.out HN1.out⟩
    have HX4 := HN2
    have HW4 : Hf (Below w.heap.size w w4) := ⟨below_step (below_step (below_step (below_step HB.out HB1.out) HM1.out) HB3.out) HM2.out⟩
    have HY1 : Hf (∀ V, Below w4.heap.size w4 V → V.heap[w.heap.size]? = some (.cells za 23)) := ⟨fun V hV => (hV.block _ (Array.getElem?_eq_some_iff.1 HX1.out).1).trans HX1.out⟩
    have HY2 : Hf (∀ V, Below w4.heap.size w4 V → V.heap[w.heap.size + 1]? = some (.cells zb 23)) := ⟨fun V hV => (hV.block _ (Array.getElem?_eq_some_iff.1 HX2.out).1).trans HX2.out⟩
    have HY3 : Hf (∀ V, Below w4.heap.size w4 V → V.heap[w1.heap.size]? = some (.cells zx 23)) := ⟨fun V hV => (hV.block _ (Array.getElem?_eq_some_iff.1 HX3.out).1).trans HX3.out⟩
    have HY4 : Hf (∀ V, Below w4.heap.size w4 V → V.heap[w3.heap.size]? = some (.cells zx 23)) := ⟨fun V hV => (hV.block _ (Array.getElem?_eq_some_iff.1 HX4.out).1).trans HX4.out⟩
    have heq := HEQ.out
    clear H1 H2 HB HB1 HM1 HB3 HM2 HN1 HN2 HX1 HX2 HX3 HX4 HG HGR
    refine wp_region_quiet (C := fun W' => Below w4.heap.size w4 W') (by kernel_rfl) (by kernel_rfl) (Below.refl _ _).drew ?_
    simp only [List.toList_toArray]
    refine qstep_load (by rfl) 23 (.tmp 3) rfl _ rfl 23 za (0, 0) _ HY1.out Try.underlying23 rfl (size23.trans (by rw [HZ1.out])) ?_
    refine qstep_call (by rfl) 16 #[.tmp 25] #[23] rfl #[.agg za] (by simp [Act.eval, Act.put]) (.string tx) HE16.out (fun W hW => (HT.out W).mono fun e w'' h => ⟨h.1, below_step hW h.2⟩) ?_
    refine qstep_load (by rfl) 23 (.tmp 3) rfl _ rfl 23 za (0, 0) _ HY1.out Try.underlying23 rfl (size23.trans (by rw [HZ1.out])) ?_
    refine qstep_call (by rfl) 19 #[.tmp 27] #[23] rfl #[.agg za] (by simp [Act.eval, Act.put]) (.string tx) HE19.out (fun W hW => (HTR.out W).mono fun e w'' h => ⟨h.1, below_step hW h.2⟩) ?_
    (refine wpQuiet_step (fun K hK => ?_); go_simp; refine ⟨_, fun _ _ => rfl, hK _ ?_⟩; clear hK K)
    (go_big_quiet_want; go_big_quiet_op; first | go_big_quiet_on | (refine ⟨_, fun _ _ => rfl, ?_⟩; go_big_quiet_on))
    refine qstep_load (by rfl) 23 (.tmp 7) rfl _ rfl 23 zx (0, 0) _ HY3.out Try.underlying23 rfl (size23.trans (by rw [HZ3.out])) ?_
    refine qstep_load (by rfl) 23 (.tmp 9) rfl _ rfl 23 zx (0, 0) _ HY4.out Try.underlying23 rfl (size23.trans (by rw [HZ3.out])) ?_
    (refine wpQuiet_step (fun K hK => ?_); go_simp; refine ⟨_, fun _ _ => rfl, hK _ ?_⟩; clear hK K)
    (go_big_quiet_want; go_big_quiet_op; first | go_big_quiet_on | (refine ⟨_, fun _ _ => rfl, ?_⟩; go_big_quiet_on))
    (go_big_quiet_want; go_big_quiet_op; first | go_big_quiet_on | (refine ⟨_, fun _ _ => rfl, ?_⟩; go_big_quiet_on))
    (go_big_quiet_want; go_big_quiet_op; first | go_big_quiet_on | (refine ⟨_, fun _ _ => rfl, ?_⟩; go_big_quiet_on))
    (go_big_quiet_want; go_big_quiet_op; first | go_big_quiet_on | (refine ⟨_, fun _ _ => rfl, ?_⟩; go_big_quiet_on))
    (go_big_quiet_want; go_big_quiet_op; first | go_big_quiet_on | (refine ⟨_, fun _ _ => rfl, ?_⟩; go_big_quiet_on))
    (go_big_quiet_want; go_big_quiet_op; first | go_big_quiet_on | (refine ⟨_, fun _ _ => rfl, ?_⟩; go_big_quiet_on))
    (go_big_quiet_want; go_big_quiet_op; first | go_big_quiet_on | (refine ⟨_, fun _ _ => rfl, ?_⟩; go_big_quiet_on))
    refine qstep_load (by rfl) 23 (.tmp 3) rfl _ rfl 23 za (0, 0) _ HY1.out Try.underlying23 rfl (size23.trans (by rw [HZ1.out])) ?_
    refine qstep_load (by rfl) 23 (.tmp 4) rfl _ rfl 23 zb (0, 0) _ HY2.out Try.underlying23 rfl (size23.trans (by rw [HZ2.out])) ?_
    refine qstep_call (by rfl) 14 #[.tmp 41, .tmp 42] #[23, 23] rfl #[.agg za, .agg zb] (by simp [Act.eval, Act.put]) (.bool lt) HE14.out (fun W hW => (HLS.out W).mono fun e w'' h => ⟨h.1, below_step hW h.2⟩) ?_
    refine qstep_load (by rfl) 23 (.tmp 3) rfl _ rfl 23 za (0, 0) _ HY1.out Try.underlying23 rfl (size23.trans (by rw [HZ1.out])) ?_
    refine qstep_load (by rfl) 23 (.tmp 4) rfl _ rfl 23 zb (0, 0) _ HY2.out Try.underlying23 rfl (size23.trans (by rw [HZ2.out])) ?_
    refine qstep_call (by rfl) 20 #[.tmp 44, .tmp 45] #[23, 23] rfl #[.agg za, .agg zb] (by simp [Act.eval, Act.put]) (.bool lt) HE20.out (fun W hW => (HLR.out W).mono fun e w'' h => ⟨h.1, below_step hW h.2⟩) ?_
    (refine wpQuiet_step (fun K hK => ?_); go_simp; refine ⟨_, fun _ _ => rfl, hK _ ?_⟩; clear hK K)
    (go_big_quiet_want; go_big_quiet_op; first | go_big_quiet_on | (refine ⟨_, fun _ _ => rfl, ?_⟩; go_big_quiet_on))
    (go_big_quiet_want; go_big_quiet_op; first | go_big_quiet_on | (refine ⟨_, fun _ _ => rfl, ?_⟩; go_big_quiet_on))
    refine qstep_load (by rfl) 23 (.tmp 3) rfl _ rfl 23 za (0, 0) _ HY1.out Try.underlying23 rfl (size23.trans (by rw [HZ1.out])) ?_
    refine qstep_call (by rfl) 15 #[.tmp 50] #[23] rfl #[.agg za] (by simp [Act.eval, Act.put]) (.int .u64 wt) HE15.out (fun W hW => (HWG.out W).mono fun e w'' h => ⟨h.1, below_step hW h.2⟩) ?_
    refine qstep_load (by rfl) 23 (.tmp 3) rfl _ rfl 23 za (0, 0) _ HY1.out Try.underlying23 rfl (size23.trans (by rw [HZ1.out])) ?_
    refine qstep_call (by rfl) 21 #[.tmp 52] #[23] rfl #[.agg za] (by simp [Act.eval, Act.put]) (.int .u64 wt) HE21.out (fun W hW => (HWR.out W).mono fun e w'' h => ⟨h.1, below_step hW h.2⟩) ?_
    (refine wpQuiet_step (fun K hK => ?_); go_simp; refine ⟨_, fun _ _ => rfl, hK _ ?_⟩; clear hK K)
    (go_big_quiet_want; go_big_quiet_op; first | go_big_quiet_on | (refine ⟨_, fun _ _ => rfl, ?_⟩; go_big_quiet_on))
    (go_big_quiet_want; go_big_quiet_op; first | go_big_quiet_on | (refine ⟨_, fun _ _ => rfl, ?_⟩; go_big_quiet_on))
    refine qstep_call (by rfl) 13 #[] #[] rfl #[] (by simp [Act.eval, Act.put]) (.bool true) HE13.out (fun W hW => (HA.out W).mono fun e w'' h => ⟨h.1, below_step hW h.2⟩) ?_
    (refine wpQuiet_step (fun K hK => ?_); go_simp; refine ⟨_, fun _ _ => rfl, hK _ ?_⟩; clear hK K)
    (go_big_quiet_want; go_big_quiet_op; first | go_big_quiet_on | (refine ⟨_, fun _ _ => rfl, ?_⟩; go_big_quiet_on))
    refine wpQuiet_nil ?_
    intro w9 hW9
    have HW9 := Hf.mk (below_step HW4.out hW9)
    clear hW9
    go_wp2
    exact ⟨rfl, _, results_tmp rfl _ _ _, rfl, HW9.out⟩
  · have hs' : (100 : Int) < (s.size : Int) := by omega
    clear hs
    go_wp2_with (go_at_call 13; refine (HA.out _).mono ?_; rintro e w1 ⟨rfl, hb1⟩; have HB1 := Hf.mk hb1; clear hb1)
    go_ret
    exact ⟨rfl, below_step HB.out HB1.out⟩
theorem digestTexts_walk (a b : List Nat) (s : ByteArray) (W : World) (ha : a.length = 32) (ha1 : ∀ x ∈ a, x < 256) (hb : b.length = 32) (hb1 : ∀ x ∈ b, x < 256) (_hs : s.size ≤ maxLen) :
    Calls Try.prog 4 #[.agg (cellsOf a).toArray, .agg (cellsOf b).toArray, .string s] W fun e w' => e = .returned (.bool true) ∧ Below W.heap.size W w' := texts_any a b s W ha hb ha1 hb1
end Go.Proofs.Ytaaepadhapfkoaa
