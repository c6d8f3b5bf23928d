/-
  Digest: the constants, the first state.
-/
import Derived.Test.YtaaepadhapfkoaaDgN
import Derived.Outline
namespace Go.Proofs.Ytaaepadhapfkoaa
set_option linter.unusedSimpArgs false
set_option linter.unusedVariables false
open Go.RowKit

theorem event_run {P : Program} {ops : Array Oper} {rest : List Oper} {o : Oper} {a : Act} {Q : Exit → Act → World → Prop} {W w1 : World} {v : Value} (hgd : o.guard = none) (hrun : (execOp a.eval o).run P W = .ok (.value v) w1) (h : wpList P ops Q rest (a.put o.dst v) w1) : wpList P ops Q (o :: rest) a W := by
  refine wpList_plain hgd fun K hK => ?_
  unfold Oper.wp
  rw [hrun]
  exact hK _ _ h
theorem Below.setRow' {B : Nat} {a w : World} (h : Below B a w) {g : Nat} (hg : B ≤ g) (cs : Array Value) : Below B a (w.setRow g cs) :=
  h.trans ⟨rfl, rfl, rfl, by simp, fun k hk => setRow_other w g k cs (by omega)⟩
theorem size131 : (Try.prog.info? 131).map (·.size) = some 64 := by kernel_rfl
theorem size134 : (Try.prog.info? 134).map (·.size) = some 8 := by kernel_rfl
theorem zero131 (w : World) : (zeroValue 131).run Try.prog w = .ok (.agg (Array.replicate 64 (.int .u32 0))) w := by kernel_rfl
theorem arr_zero (n : Nat) : Array.replicate n (Value.int .u32 0) = arrU n (fun _ => 0) := by
  apply Array.ext_getElem?
  intro i
  rw [Array.getElem?_replicate]
  by_cases h : i < n
  · rw [arrU_at _ _ _ h, if_pos h]; rfl
  · rw [if_neg h, Array.getElem?_eq_none (by rw [arrU_size]; omega)]
theorem zero131' (w : World) : (zeroValue 131).run Try.prog w = .ok (.agg (arrU 64 fun _ => 0)) w := by rw [← arr_zero]; exact zero131 w
theorem K_len : Sha.K.length = 64 := rfl
theorem arrU_K : (Sha.K.map fun x : Nat => Value.int .u32 x).toArray = arrU 64 (fun i => Sha.K.getD i 0) := by
  apply Array.ext_getElem?
  intro i
  by_cases h : i < 64
  · rw [arrU_at _ _ _ h]
    have hl : i < Sha.K.length := by rw [K_len]; exact h
    simp [List.getD, hl]
  · rw [Array.getElem?_eq_none (by simp [K_len]; omega), Array.getElem?_eq_none (by rw [arrU_size]; omega)]
set_option maxHeartbeats 1600000 in
set_option maxRecDepth 100000 in
theorem constants_any (w : World) : Calls Try.prog 77 #[] w fun e w' => e = .returned (.agg (arrU 64 fun i => Sha.K.getD i 0)) ∧ Below w.heap.size w w' := by
  have hz := zero131'
  have hzs := arrU_size 64 (fun _ => 0)
  obtain ⟨zs, hze⟩ : ∃ zs, arrU 64 (fun _ => 0) = zs := ⟨_, rfl⟩
  rw [hze] at hz hzs
  obtain ⟨ks, hks⟩ : ∃ ks, (Sha.K.map fun x : Nat => Value.int .u32 x).toArray = ks := ⟨_, rfl⟩
  have h1 : ks.size = 64 := by rw [← hks, arrU_K, arrU_size]
  have h2 : ks.all (·.oneCell') = true := by rw [← hks, arrU_K]; exact arrU_one _ _
  have h3 : arrU 64 (fun i => Sha.K.getD i 0) = ks := by rw [← hks, arrU_K]
  have HKS := Lib.hid hks
  have H1 := Lib.hid h1
  have H2 := Lib.hid h2
  have H3 := Lib.hid h3
  have HZ := Lib.hid hzs
  have HZE := Lib.hid hze
  clear hks h1 h2 h3 hze hzs hz
  go_enter Try.func77, Try.ntmps77
  refine wp_seq ?_
  refine wp_region_lit ?_
  refine event_run (v := .pointer (some ⟨w.heap.size, 0, none⟩)) (w1 := w.alloc (.cells zs 131)) rfl ?n0 ?_
  case n0 =>
    rw [← HZE.out]
    kernel_rfl
  refine wpList_nil ?_
  refine wp_seq ?_
  refine wp_region_lit ?_
  refine event_run (v := .agg ks) (w1 := w.alloc (.cells zs 131)) rfl ?n1 ?_
  case n1 =>
    rw [← HKS.out]
    kernel_rfl
  refine wpList_store_row rfl 131 _ _ rfl w.heap.size ks rfl rfl 131 zs (heap_alloc_new _ _) (size131.trans (by rw [H1.out])) (HZ.out.trans H1.out.symm) H2.out ?_
  refine wpList_nil ?_
  refine wp_ret ?_
  refine bodyPost_ret (results_cell_row rfl _ _ w.heap.size 131 ks (0, 0) _ rfl (setRow_heap _ _ zs ks 131 (0, 0) (heap_alloc_new _ _)) Try.underlying131 rfl (size131.trans (by rw [H1.out]))) rfl ⟨by rw [H3.out], ?_⟩
  exact Below.setRow' ((Below.refl _ _).alloc (Nat.le_refl _) _) (Nat.le_refl _) _
set_option maxHeartbeats 1600000 in
set_option maxRecDepth 100000 in
theorem first_any (w : World) : Calls Try.prog 78 #[] w fun e w' => e = .returned (.agg (arrU 8 fun i => Sha.H0.l.getD i 0)) ∧ Below w.heap.size w w' := by
  have h3 : arrU 8 (fun i => Sha.H0.l.getD i 0) = #[Value.int .u32 1779033703, .int .u32 3144134277, .int .u32 1013904242, .int .u32 2773480762, .int .u32 1359893119, .int .u32 2600822924, .int .u32 528734635, .int .u32 1541459225] := by rfl
  have H3 := Lib.hid h3
  clear h3
  go_enter Try.func78, Try.ntmps78
  go_wp2
  refine bodyPost_ret (results_cell_row rfl _ _ w.heap.size 134 _ (0, 0) _ rfl (heap_alloc_new _ _) Try.underlying134 rfl size134) rfl ⟨by rw [H3.out], ?_⟩
  exact (Below.refl _ _).alloc (Nat.le_refl _) _
end Go.Proofs.Ytaaepadhapfkoaa
