/-
  Digest: the document's id of a text.
-/
import Derived.Test.YtaaepadhapfkoaaDgJ
namespace Go.Proofs.Ytaaepadhapfkoaa
set_option linter.unusedSimpArgs false
set_option linter.unusedVariables false
open Go.RowKit Go.Maps

theorem digit_same {c : Nat} {d : Int} (hc : c < 256) (hd : dgt c = d) (u : World) : Calls Try.prog 56 #[.int .u8 (c : Nat)] u fun e w' => e = .returned (.int .i64 d) ∧ w' = u :=
  (digit_any c u hc).mono fun e w' h => ⟨by rw [h.1, hd], h.2.symm⟩
theorem dgt_neg {c : Nat} (h : ¬ 0 ≤ dgt c) : dgt c = -1 := by
  unfold dgt at h ⊢
  split at h
  · omega
  · split at h
    · omega
    · rw [if_neg (by assumption), if_neg (by assumption)]
set_option maxHeartbeats 1000000 in
set_option maxRecDepth 100000 in
theorem getR_any (s : ByteArray) (w : World) : Calls Try.prog 18 #[.string s] w fun e w' => e = .returned (.tuple #[.agg (cellsOf (getS (bytN s)).1).toArray, .int .i64 (getS (bytN s)).2]) ∧ Below w.heap.size w w' := by
  generalize hr : getS (bytN s) = r
  have HGS := Hf.mk hr
  clear hr
  have hz : (z32).size = 32 := rfl
  have HZ := Hf.mk hz
  have HZO : Hf (z32.all (·.oneCell') = true) := ⟨by decide +kernel⟩
  clear hz
  go_enter Try.func18, Try.ntmps18
  go_upto_region 2 with fail
  rw [show (#[Value.int IntKind.u8 0, Value.int IntKind.u8 0, Value.int IntKind.u8 0, Value.int IntKind.u8 0, Value.int IntKind.u8 0, Value.int IntKind.u8 0, Value.int IntKind.u8 0, Value.int IntKind.u8 0, Value.int IntKind.u8 0, Value.int IntKind.u8 0, Value.int IntKind.u8 0, Value.int IntKind.u8 0, Value.int IntKind.u8 0, Value.int IntKind.u8 0, Value.int IntKind.u8 0, Value.int IntKind.u8 0, Value.int IntKind.u8 0, Value.int IntKind.u8 0, Value.int IntKind.u8 0, Value.int IntKind.u8 0, Value.int IntKind.u8 0, Value.int IntKind.u8 0, Value.int IntKind.u8 0, Value.int IntKind.u8 0, Value.int IntKind.u8 0, Value.int IntKind.u8 0, Value.int IntKind.u8 0, Value.int IntKind.u8 0, Value.int IntKind.u8 0, Value.int IntKind.u8 0, Value.int IntKind.u8 0, Value.int IntKind.u8 0] : Array Value) = z32 from rfl]
  have h1 : ((w.alloc (.cells z32 23)).alloc (.cells z32 23)).heap[w.heap.size]? = some (.cells z32 23) := (Below.heap_alloc _ _ _ (by simp)).trans (heap_alloc_new _ _)
  have h2 := heap_alloc_new (w.alloc (.cells z32 23)) (.cells z32 23)
  rw [World.size_alloc] at h2
  have hw : Below w.heap.size w ((w.alloc (.cells z32 23)).alloc (.cells z32 23)) := ((Below.refl _ _).alloc (Nat.le_refl _) _).alloc (by simp) _
  have hsz : ((w.alloc (.cells z32 23)).alloc (.cells z32 23)).heap.size = w.heap.size + 2 := by simp
  have H1 := Hf.mk h1
  have H2 := Hf.mk h2
  have HW := Hf.mk hw
  clear h1 h2 hw
  by_cases hs : s.size = 64
  · have HS := Hf.mk hs
    have hs' : (s.size : Int) = 64 := by omega
    clear hs
    generalize (w.alloc (.cells z32 23)).alloc (.cells z32 23) = W at *
    go_upto_region 4 with fail
    go_wp2
    have HL := H1
    have HR := H2
    have HW1 := HW
    go_loopw [5] (fun i wr => ∃ k : Nat, k ≤ 32 ∧ i = .int .i64 k ∧ Hf (gotAll (bytN s) k) ∧ Hf (wr.heap[w.heap.size]? = some (.cells z32 23)) ∧ Hf (wr.heap[w.heap.size + 1]? = some (.cells (cellsOf (gotL (bytN s) k)).toArray 23)) ∧ Hf (Below w.heap.size w wr)) (fun i _ => 32 - (intOf i).toNat)
    case atStart => exact ⟨0, by omega, rfl, ⟨fun j hj => absurd hj (Nat.not_lt_zero j)⟩, HL, ⟨by rw [z32_eq]; exact HR.out⟩, HW1⟩
    case round =>
      obtain ⟨k, hk, rfl, HA, HL, HR, HW1⟩ := hrel
      by_cases hgo : k < 32
      · have hgo2 : (k : Int) < 32 := by omega
        have i1 := bytN_at s (2 * k) (by rw [HS.out]; omega)
        have i2 := bytN_at s (2 * k + 1) (by rw [HS.out]; omega)
        obtain ⟨c1, hc1⟩ : ∃ c, (bytN s).getD (2 * k) 0 = c := ⟨_, rfl⟩
        obtain ⟨c2, hc2⟩ : ∃ c, (bytN s).getD (2 * k + 1) 0 = c := ⟨_, rfl⟩
        have l1 : c1 < 256 := by rw [← hc1]; exact Sha.get_lt (by omega) (bytN_lt s) _
        have l2 : c2 < 256 := by rw [← hc2]; exact Sha.get_lt (by omega) (bytN_lt s) _
        have HIX1 : ∀ u, (Instr.index 9 (.string s) (.int .i64 (2 * (k : Int)))).run Try.prog u = .ok (.int .u8 (c1 : Nat)) u := fun u => index_str s (2 * k) c1 (by rw [HS.out]; omega) hc1 u (by omega)
        have HIX2 : ∀ u, (Instr.index 9 (.string s) (.int .i64 (2 * (k : Int) + 1))).run Try.prog u = .ok (.int .u8 (c2 : Nat)) u := fun u => index_str s (2 * k + 1) c2 (by rw [HS.out]; omega) hc2 u (by omega)
        have HC1 := Hf.mk hc1
        have HC2 := Hf.mk hc2
        have HL1 := Hf.mk l1
        have HL2 := Hf.mk l2
        clear hc1 hc2 l1 l2 i1 i2
        have HLD : Hf (∀ n, (wr.drewN n).heap[w.heap.size]? = some (.cells z32 23)) := ⟨fun _ => HL.out⟩
        by_cases g1 : 0 ≤ dgt c1
        · by_cases g2 : 0 ≤ dgt c2
          · obtain ⟨m1, hm1⟩ : ∃ m : Nat, dgt c1 = m := ⟨(dgt c1).toNat, by omega⟩
            obtain ⟨m2, hm2⟩ : ∃ m : Nat, dgt c2 = m := ⟨(dgt c2).toNat, by omega⟩
            have n1 : m1 < 16 := by have := dgt_lt c1; omega
            have n2 : m2 < 16 := by have := dgt_lt c2; omega
            have HD1 := Hf.mk (fun u => digit_same HL1.out (d := (m1 : Int)) (hm1) u)
            have HD2 := Hf.mk (fun u => digit_same HL2.out (d := (m2 : Int)) (hm2) u)
            have HA3 : Hf (gotAll (bytN s) (k + 1)) := ⟨fun j hj => by
              by_cases e : j = k
              · subst e; rw [HC1.out, HC2.out]; exact ⟨g1, g2⟩
              · exact HA.out j (by omega)⟩
            have hset := gotL_set (bytN s) k hgo
            rw [HC1.out, HC2.out, hm1, hm2, show ((m1 : Int) * 16 + (m2 : Int)).toNat = m1 * 16 + m2 by omega] at hset
            have HSET := Hf.mk hset
            have c0 := Go.Joins.cell_of_block HR.out k
            rw [show (cellsOf (gotL (bytN s) k)).toArray[k]? = some (.int .u8 ((gotL (bytN s) k).getD k 0 : Nat)) by simpa using cellsOf_at (l := gotL (bytN s) k) (j := k) (by rw [gotL_len]; exact hgo)] at c0
            have f0 := Go.Joins.unfrozen_of_block HR.out k
            generalize (gotL (bytN s) k).getD k 0 = c3 at c0
            have n1' : (m1 : Int) < 16 := by omega
            have n2' : (m2 : Int) < 16 := by omega
            have hcm : (16 : Int) * (m1 : Int) = (m1 : Int) * 16 := Int.mul_comm _ _
            have HLR : Hf (∀ n, (wr.drewN n).heap[w.heap.size + 1]? = some (.cells (cellsOf (gotL (bytN s) k)).toArray 23)) := ⟨fun _ => HR.out⟩
            have HSET2 : Hf ((cellsOf (gotL (bytN s) k)).toArray.setIfInBounds k (.int .u8 (16 * (m1 : Int) + (m2 : Int))) = (cellsOf (gotL (bytN s) (k + 1))).toArray) := ⟨by rw [← HSET.out]; congr 2; omega⟩
            have HCV : Hf ((m1 : Int) * 16 + (m2 : Int) = ((m1 * 16 + m2 : Nat) : Int)) := ⟨by omega⟩
            clear g1 g2 hm1 hm2 hset hcm
            go_wp2_with go_quiet (first | (with_reducible exact Calls.quiet_of_same (HD1.out _)) | (with_reducible exact Calls.quiet_of_same (HD2.out _)))
            go_roundw
            case rel => exact ⟨k + 1, by omega, by go_num, HA3, ⟨(Below.heap_setCell _ _ _ _ (by show w.heap.size ≠ w.heap.size + 1; omega)).trans HL.out⟩, ⟨by rw [← HSET2.out]; exact Go.Joins.block_setCell (HLR.out _) _⟩, ⟨(below_drewN HW1.out _).setCell (by show w.heap.size ≤ w.heap.size + 1; omega) _⟩⟩
            case measure => simp [intOf]; omega
          · have HF : Hf (r = (gotL (bytN s) 0, 10)) := ⟨by rw [← HGS.out]; unfold getS; rw [if_neg (fun h => g2 (by rw [← HC2.out]; exact (h.2 k hgo).2))]⟩
            have HA2 : Hf (Ending.returned (.tuple #[.agg z32, .int .i64 10]) = Ending.returned (.tuple #[.agg (cellsOf r.1).toArray, .int .i64 r.2])) := ⟨by rw [HF.out, ← z32_eq (bytN s)]⟩
            obtain ⟨m1, hm1⟩ : ∃ m : Nat, dgt c1 = m := ⟨(dgt c1).toNat, by omega⟩
            have HD1 := Hf.mk (fun u => digit_same HL1.out (d := (m1 : Int)) (hm1) u)
            have HD2 := Hf.mk (fun u => digit_same HL2.out (d := -1) (dgt_neg g2) u)
            have n1' : (m1 : Int) < 16 := by have := dgt_lt c1; omega
            clear g1 g2 hm1
            go_wp2_with (first
              | (with_reducible refine wpList_store_row rfl 23 _ _ rfl w.heap.size z32 rfl rfl 23 z32 (HLD.out _) (size23.trans (by rw [HZ.out])) rfl HZO.out ?_; rw [setRow_self _ w.heap.size z32 23 (0, 0) (HLD.out _)])
              | go_quiet (first | (with_reducible exact Calls.quiet_of_same (HD1.out _)) | (with_reducible exact Calls.quiet_of_same (HD2.out _))))
            (try simp only [Exit.inBlock, Exit.then])
            refine bodyPost_ret (results_cell_tmp rfl _ _ w.heap.size 23 z32 (0, 0) _ rfl (HLD.out _) Try.underlying23 rfl (size23.trans (by rw [HZ.out]))) rfl ?_
            exact ⟨HA2.out, below_drewN HW1.out _⟩
        · have HF : Hf (r = (gotL (bytN s) 0, 10)) := ⟨by rw [← HGS.out]; unfold getS; rw [if_neg (fun h => g1 (by rw [← HC1.out]; exact (h.2 k hgo).1))]⟩
          have HA2 : Hf (Ending.returned (.tuple #[.agg z32, .int .i64 10]) = Ending.returned (.tuple #[.agg (cellsOf r.1).toArray, .int .i64 r.2])) := ⟨by rw [HF.out, ← z32_eq (bytN s)]⟩
          obtain ⟨d2, hv2⟩ : ∃ v, dgt c2 = v := ⟨_, rfl⟩
          have HD1 := Hf.mk (fun u => digit_same HL1.out (d := -1) (dgt_neg g1) u)
          have HD2 := Hf.mk (fun u => digit_same HL2.out (d := d2) (hv2) u)
          clear g1 hv2
          go_wp2_with (first
            | (with_reducible refine wpList_store_row rfl 23 _ _ rfl w.heap.size z32 rfl rfl 23 z32 (HLD.out _) (size23.trans (by rw [HZ.out])) rfl HZO.out ?_; rw [setRow_self _ w.heap.size z32 23 (0, 0) (HLD.out _)])
            | go_quiet (first | (with_reducible exact Calls.quiet_of_same (HD1.out _)) | (with_reducible exact Calls.quiet_of_same (HD2.out _))))
          (try simp only [Exit.inBlock, Exit.then])
          refine bodyPost_ret (results_cell_tmp rfl _ _ w.heap.size 23 z32 (0, 0) _ rfl (HLD.out _) Try.underlying23 rfl (size23.trans (by rw [HZ.out]))) rfl ?_
          exact ⟨HA2.out, below_drewN HW1.out _⟩
      · obtain rfl : k = 32 := by omega
        have HF : Hf (r = (gotL (bytN s) 32, 0)) := ⟨by rw [← HGS.out]; unfold getS; rw [if_pos ⟨by rw [bytN_len]; exact HS.out, HA.out⟩]⟩
        have HA2 : Hf (Ending.returned (.tuple #[.agg (cellsOf (gotL (bytN s) 32)).toArray, .int .i64 0]) = Ending.returned (.tuple #[.agg (cellsOf r.1).toArray, .int .i64 r.2])) := ⟨by rw [HF.out]⟩
        have HZ2 : Hf ((cellsOf (gotL (bytN s) 32)).toArray.size = 32) := ⟨by rw [List.size_toArray, cellsOf_length, gotL_len]⟩
        have HO2 : Hf ((cellsOf (gotL (bytN s) 32)).toArray.all (·.oneCell') = true) := ⟨by
          rw [Array.all_eq_true']
          intro v hv
          exact cellsOf_one _ v (by simpa using hv)⟩
        generalize (cellsOf (gotL (bytN s) 32)).toArray = zs at *
        go_wp2_with (first
          | (with_reducible refine wpList_load_row rfl 23 _ rfl (w.heap.size + 1) rfl 23 zs (0, 0) _ HR.out Try.underlying23 rfl (size23.trans (by rw [HZ2.out])) ?_)
          | (with_reducible refine wpList_store_row rfl 23 _ _ rfl w.heap.size zs rfl rfl 23 z32 HL.out (size23.trans (by rw [HZ2.out])) (by rw [HZ.out, HZ2.out]) HO2.out ?_))
        (try simp only [Exit.inBlock, Exit.then])
        refine bodyPost_ret (results_cell_tmp rfl _ _ w.heap.size 23 zs (0, 0) _ rfl (setRow_heap _ _ z32 zs 23 (0, 0) HL.out) Try.underlying23 rfl (size23.trans (by rw [HZ2.out]))) rfl ?_
        exact ⟨HA2.out, HW1.out.trans ⟨rfl, rfl, rfl, by simp, fun i hi => setRow_other _ _ i _ (by omega)⟩⟩
  · have hs' : ¬ (s.size : Int) = 64 := by omega
    have HA : Hf (getS (bytN s) = (gotL (bytN s) 0, 10)) := ⟨by unfold getS; rw [if_neg (fun h => hs (by rw [← bytN_len]; exact h.1))]⟩
    rw [HGS.out] at HA
    have HA2 : Hf (Ending.returned (.tuple #[.agg z32, .int .i64 10]) = Ending.returned (.tuple #[.agg (cellsOf r.1).toArray, .int .i64 r.2])) := ⟨by rw [HA.out, ← z32_eq (bytN s)]⟩
    clear hs HA
    generalize (w.alloc (.cells z32 23)).alloc (.cells z32 23) = W at *
    go_upto_region 3 with fail
    go_wp2_with (first
      | (with_reducible refine wpList_load_row rfl 23 _ rfl (w.heap.size + 1) rfl 23 z32 (0, 0) _ H2.out Try.underlying23 rfl (size23.trans (by rw [HZ.out])) ?_)
      | (with_reducible refine wpList_store_row rfl 23 _ _ rfl w.heap.size z32 rfl rfl 23 z32 H1.out (size23.trans (by rw [HZ.out])) rfl HZO.out ?_; rw [setRow_self W w.heap.size z32 23 (0, 0) H1.out]))
    refine bodyPost_ret (results_cell_tmp rfl _ _ w.heap.size 23 z32 (0, 0) _ rfl H1.out Try.underlying23 rfl (size23.trans (by rw [HZ.out]))) rfl ?_
    exact ⟨HA2.out, HW.out⟩
end Go.Proofs.Ytaaepadhapfkoaa
