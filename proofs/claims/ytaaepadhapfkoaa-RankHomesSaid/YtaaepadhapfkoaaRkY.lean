/-
  Rank: with one node more an order is the same but for that one.
-/
import Derived.Test.YtaaepadhapfkoaaRkW
import Derived.Deep.RegionHeld3
import Derived.Deep.MidRow
namespace Go.Proofs.Ytaaepadhapfkoaa
set_option linter.unusedSimpArgs false
set_option linter.unusedVariables false
open Go.RowKit

theorem info4 : (Try.prog.info? 4).map (fun i => (i.zero, i.size, i.bytes)) = some (some (.bool false), 1, 1) := by kernel_rfl
theorem size23b : (Try.prog.info? 23).map (·.size) = some 32 := by kernel_rfl
theorem range_heap {w : World} {g : Nat} {cs : List Value} {t : TypeId} {fr : Nat × Nat} (h : w.heap[g]? = some (.cells cs.toArray t fr)) : w.rangeAt g 0 cs := fun j v hv => by
  rw [Go.Joins.cell_of_block h, Nat.zero_add]
  simpa using hv
/-- which numbers have been seen -/
def seenC (n : Nat) (l : List Nat) : Array Value := ((List.range n).map fun j => Value.bool (decide (j ∈ l))).toArray
theorem seenC_size (n : Nat) (l : List Nat) : (seenC n l).size = n := by simp [seenC]
theorem seenC_get (n : Nat) (l : List Nat) (j : Nat) (h : j < n) : (seenC n l)[j]? = some (.bool (decide (j ∈ l))) := by simp [seenC, h]
theorem seenC_set (n : Nat) (l : List Nat) (x : Nat) (h : x < n) : (seenC n l).setIfInBounds x (.bool true) = seenC n (l ++ [x]) := by
  apply Array.ext_getElem?
  intro j
  rw [Array.getElem?_setIfInBounds]
  by_cases hj : j < n
  · rw [seenC_get n l j hj, seenC_get n _ j hj, seenC_size]
    by_cases e : x = j
    · subst e; simp [h]
    · rw [if_neg e]
      congr 2
      apply decide_eq_decide.2
      simp [List.mem_append, Ne.symm e]
  · rw [Array.getElem?_eq_none (by rw [seenC_size]; omega), Array.getElem?_eq_none (by rw [seenC_size]; omega), seenC_size, if_neg (by omega)]
theorem make_bools (m : Nat) (h : m ≤ 1000) (W : World) : (Instr.makeSlice 48 (.int .i64 (m : Int)) (.int .i64 (m : Int))).run Try.prog W = .ok (.slice (some ⟨W.heap.size, 0, none⟩) m m) (W.alloc (.cells (seenC m []) 4)) := by
  have := run_make_rowN (P := Try.prog) 48 4 (.bool false) 1 1 Try.underlying48 info4 m (by omega) (by omega) W
  rw [Nat.mul_one] at this
  have e : seenC m [] = madeCells (Value.bool false).cells m := by
    apply Array.ext_getElem?
    intro j
    by_cases hj : j < m
    · rw [seenC_get m [] j hj]
      simp [madeCells, hj, Value.cells, Nat.mod_one]
    · rw [Array.getElem?_eq_none (by rw [seenC_size]; omega), Array.getElem?_eq_none (by simp [madeCells, Value.cells]; omega)]
  rw [e]
  exact this
theorem ordI_get {id : List Nat} {n k : Nat} (h : k < n) : (ordI id n).getD k 0 = (((ordL id n).getD k 0 : Nat) : Int) := by
  unfold ordI
  have : k < (ordL id n).length := by rw [ordL_len]; exact h
  simp [List.getD, this]
theorem ordL_at {id : List Nat} {n k : Nat} (h : k < n) : 1 ≤ (ordL id n).getD k 0 ∧ (ordL id n).getD k 0 ≤ n := by
  have hk : k < (ordL id n).length := by rw [ordL_len]; exact h
  apply ordL_mem.1
  rw [getD_get hk]
  exact List.getElem_mem hk
theorem ordL_new {id : List Nat} {n k : Nat} (h : k < n) : ¬ (ordL id n).getD k 0 ∈ (ordL id n).take k := by
  have hk : k < (ordL id n).length := by rw [ordL_len]; exact h
  rw [getD_get hk]
  intro hm
  obtain ⟨j, hj, e⟩ := List.getElem_of_mem hm
  rw [List.length_take] at hj
  rw [List.getElem_take] at e
  exact (List.pairwise_iff_getElem.1 (ordL_nodup id n)) j k (by omega) hk (by omega) e
theorem keep_next {w1 W W' : World} {g : Nat} {cs : List Value} (hg : g < w1.heap.size) (h : W.rangeAt g 0 cs ∧ Below w1.heap.size w1 W) (hb : Below W.heap.size W W') : W'.rangeAt g 0 cs ∧ Below w1.heap.size w1 W' :=
  ⟨fun j v hv => (hb.cell (p := ⟨g, 0 + j, none⟩) (Nat.lt_of_lt_of_le hg h.2.size)).trans (h.1 j v hv), below_step h.2 hb⟩
theorem rdI_ownN {w : World} {base : Nat} {v : Value} {id : List Nat} {k : Nat} (h : w.ownsRow base 3 1 v (ordL id k).length (intsN (ordL id k))) : ∃ A c, v = .slice A (ordL id k).length c ∧ RdI w A (ordI id k) ∧ (ordL id k).length ≤ c := by
  have e : intsN (ordL id k) = intsZ (ordI id k) := by unfold intsN intsZ ordI; rw [List.map_map]; rfl
  have e2 : (ordL id k).length = (ordI id k).length := by unfold ordI; rw [List.length_map]
  rw [e, e2] at h
  rw [e2]
  exact rdI_ownZ rfl h
theorem filter_snoc (l : List Nat) (k n : Nat) (hk : k < l.length) : (l.take (k + 1)).filter (fun x => decide (x ≠ n)) = (l.take k).filter (fun x => decide (x ≠ n)) ++ (if l.getD k 0 = n then [] else [l.getD k 0]) := by
  rw [take_snoc hk, List.filter_append]
  congr 1
  generalize l.getD k 0 = x
  by_cases e : x = n <;> simp [e]
set_option maxHeartbeats 400000 in
set_option maxRecDepth 100000 in
theorem whole17 (id : List Nat) (nodes : Int) (w : World) (hl : id.length = 32) (hb : ∀ c ∈ id, c < 256) :
    Calls Try.prog 7 #[.agg (cellsOf id).toArray, .int .i64 nodes] w fun e w' => e = .returned (.bool true) ∧ Below w.heap.size w w' := by
  obtain ⟨m, hm⟩ : ∃ m : Nat, nodes % 63 = m := ⟨(nodes % 63).toNat, by have := Int.emod_nonneg nodes (show (63 : Int) ≠ 0 by decide); omega⟩
  have hm2 : m < 63 := by have := Int.emod_lt_of_pos nodes (show (0 : Int) < 63 by decide); omega
  have HPK := Hf.mk (fun u => Pick_any nodes 63 u (by decide) (by decide))
  rw [hm] at HPK
  have HK := Hf.mk known17
  have HLA := Hf.mk (fun u => law_order id (m + 1) u hl hb (by omega) (by omega))
  have HLB := Hf.mk (fun u => law_order id (m + 1 + 1) u hl hb (by omega) (by omega))
  have h1 := range_heap (heap_alloc_new w (.cells (cellsOf id).toArray 23))
  have hb0 : Below w.heap.size w (w.alloc (.cells (cellsOf id).toArray 23)) := (Below.refl _ _).alloc (Nat.le_refl _) _
  have hsz : (w.alloc (.cells (cellsOf id).toArray 23)).heap.size = w.heap.size + 1 := by simp
  have hcl : (Try.prog.info? 23).map (·.size) = some (cellsOf id).length := by rw [cellsOf_length, hl]; exact size23b
  have hu23 := Try.underlying23
  clear hm hl hb
  generalize cellsOf id = cs at *
  go_enter Try.func7, Try.ntmps7
  go_upto_region 1 with fail
  generalize w.alloc (.cells cs.toArray 23) = W at *
  have HB0 := Hf.mk hb0
  clear hb0
  go_upto_region 3 with (first
    | (go_at_call 6; (with_reducible refine (HK.out _).mono ?_); rintro e w1 ⟨rfl, hb1⟩; have HB1 := Hf.mk hb1; clear hb1)
    | (go_at_call 33; (with_reducible refine (HPK.out _).mono ?_); rintro e w' ⟨rfl, hw'⟩; subst hw'))
  have e1 : (1 : Int) + (m : Int) = ((m + 1 : Nat) : Int) := by omega
  rw [e1]
  have hr1 : w1.rangeAt w.heap.size 0 cs := fun j v hv => (HB1.out.cell (p := ⟨w.heap.size, 0 + j, none⟩) (by show w.heap.size < W.heap.size; omega)).trans (h1 j v hv)
  obtain ⟨n, hn⟩ : ∃ n, m + 1 = n := ⟨_, rfl⟩
  rw [hn] at HLA HLB ⊢
  have hcast : ((n + 1 : Nat) : Int) = (n : Int) + 1 := by omega
  rw [hcast] at HLB
  have hn1 : 1 ≤ n := by omega
  have hn63 : n ≤ 63 := by omega
  clear hn e1 hm2
  have hn1' : (1 : Int) ≤ (n : Int) := by omega
  have hn63' : (n : Int) ≤ 63 := by omega
  have hwr : IntKind.i64.wrap ((n : Int) + 1) = (n : Int) + 1 := IntWalk.i64_in _ (by omega)
  have hlt1 : w.heap.size < w1.heap.size := by have := HB1.out.size; omega
  refine wp_region_held_drew (S := fun w' => w'.rangeAt w.heap.size 0 cs ∧ Below w1.heap.size w1 w') (by kernel_rfl) ⟨hr1, (Below.refl _ _).drew⟩ (fun hHeld => ?_)
  refine wpAnyH_take (i := 0) rfl (by kernel_rfl) (by kernel_rfl) (by kernel_rfl) (fun _ _ _ h => h) (yieldsIf_load_mid (by rfl) _ _ rfl _ _ rfl cs _ (fun u hu => hu.1) hu23 rfl hcl) hHeld ?_
  (try simp only [Act.put, List.setIfInBounds_toArray, List.set_cons_zero, List.set_cons_succ])
  refine wpAnyH_take (i := 3) rfl (by kernel_rfl) (by kernel_rfl) (by kernel_rfl) (fun _ _ _ h => h) (yieldsIf_load_mid (by rfl) _ _ rfl _ _ rfl cs _ (fun u hu => hu.1) hu23 rfl hcl) hHeld ?_
  (try simp only [Act.put, List.setIfInBounds_toArray, List.set_cons_zero, List.set_cons_succ])
  refine wpAnyH_take (i := 1) rfl (by kernel_rfl) (by kernel_rfl) (by kernel_rfl) (fun _ _ _ h => h) (Or.inl ⟨by rfl, (by intro u hSw; go_simp; first | done | (with_reducible rfl))⟩) hHeld ?_
  (try simp only [Act.put, List.setIfInBounds_toArray, List.set_cons_zero, List.set_cons_succ])
  refine wpAnyH_take (i := 4) rfl (by kernel_rfl) (by kernel_rfl) (by kernel_rfl) (fun _ _ _ h => h) (Or.inl ⟨by rfl, (by intro u hSw; go_simp; first | done | (with_reducible rfl))⟩) hHeld ?_
  (try simp only [Act.put, List.setIfInBounds_toArray, List.set_cons_zero, List.set_cons_succ])
  refine wpAnyH_take (i := 5) rfl (by kernel_rfl) (by kernel_rfl) (by kernel_rfl) (fun _ _ _ h => h) (Or.inl ⟨by rfl, (by intro u hSw; go_simp; first | done | (with_reducible rfl))⟩) hHeld ?_
  (try simp only [Act.put, List.setIfInBounds_toArray, List.set_cons_zero, List.set_cons_succ])
  refine wpAnyH_ready (rs := [2]) (by kernel_rfl) (by simp) ?_
  refine AllReadyH.cons rfl (fun K hK => ?_) AllReadyH.nil
  go_simp
  go_at_call 34
  (with_reducible refine (HLA.out _).mono ?_)
  rintro e w2 ⟨g1, c1, rfl, hr, hc, hb2⟩
  have HI1 := Hf.mk hr
  have hk2 := keep_next hlt1 hHeld hb2
  have hBd := hHeld.2
  clear hr hb2 hHeld
  refine hK.out _ _ hk2 (fun hHeld => ?_)
  clear hK K
  (try simp only [Act.put, List.setIfInBounds_toArray, List.set_cons_zero, List.set_cons_succ])
  refine wpAnyH_ready (rs := [6]) (by kernel_rfl) (by simp) ?_
  refine AllReadyH.cons rfl (fun K hK => ?_) AllReadyH.nil
  go_simp
  go_at_call 34
  (with_reducible refine (HLB.out _).mono ?_)
  rintro e w3 ⟨g2, c2, rfl, hr, hc', hb3⟩
  have HI2 := Hf.mk hr
  have HI1' := Hf.mk (HI1.out.below hb3)
  have hk3 := keep_next hlt1 hHeld hb3
  clear hr hb3 hHeld
  refine hK.out _ _ hk3 (fun hHeld => ?_)
  clear hK K
  (try simp only [Act.put, List.setIfInBounds_toArray, List.set_cons_zero, List.set_cons_succ])
  refine wpAnyH_take (i := 7) rfl (by kernel_rfl) (by kernel_rfl) (by kernel_rfl) (fun _ _ _ h => h) (Or.inl ⟨by rfl, (by intro u hSw; go_simp; first | done | (with_reducible rfl))⟩) hHeld ?_
  (try simp only [Act.put, List.setIfInBounds_toArray, List.set_cons_zero, List.set_cons_succ])
  refine wpAnyH_take (i := 8) rfl (by kernel_rfl) (by kernel_rfl) (by kernel_rfl) (fun _ _ _ h => h) (Or.inl ⟨by rfl, (by intro u hSw; go_simp; first | done | (with_reducible rfl))⟩) hHeld ?_
  (try simp only [Act.put, List.setIfInBounds_toArray, List.set_cons_zero, List.set_cons_succ])
  refine wpAnyH_done (by kernel_rfl) ?_ _
  have HB3 := Hf.mk hk3.2
  clear hk2 hk3 hHeld
  have hmk := fun V => make_bools (n + 1) (by omega) V
  rw [hcast] at hmk
  have HSI : Hf (∀ (u : World) (b : Option Addr) (c d : Nat), RdI u (some ⟨g1, 0, none⟩) (ordI id n) → RdI u b (ordI id n) → Calls Try.prog 28 #[.slice (some ⟨g1, 0, none⟩) n c, .slice b n d] u fun e w' => e = .returned (.bool true) ∧ Below u.heap.size u w') := ⟨fun u b c d h1 h2 => by
    have h3 := same_ints (some ⟨g1, 0, none⟩) b c d (ordI id n) u h1 h2 (by rw [ordI_len]; omega)
    rw [ordI_len] at h3
    exact h3⟩
  clear HLA HLB HPK HK hr1 h1 hcl hu23
  go_wp2
  have hs0 := heap_alloc_new w3 (.cells (seenC (n + 1) []) 4)
  have hsb : Below w3.heap.size w3 (w3.alloc (.cells (seenC (n + 1) []) 4)) := (Below.refl _ _).alloc (Nat.le_refl _) _
  have HS0 := Hf.mk hs0
  have HSB := Hf.mk hsb
  clear hs0 hsb hmk
  generalize w3.alloc (.cells (seenC (n + 1) []) 4) = w4 at HS0 HSB ⊢
  go_loopw [9] (fun i wr => ∃ k : Nat, k ≤ n ∧ i = .int .i64 k ∧ Hf (wr.heap[w3.heap.size]? = some (.cells (seenC (n + 1) ((ordL id n).take k)) 4)) ∧ Hf (Below w3.heap.size w3 wr)) (fun i _ => n - (intOf i).toNat)
  case atStart => exact ⟨0, by omega, rfl, HS0, HSB⟩
  case round =>
    obtain ⟨k, hk, rfl, HS, HB⟩ := hrel
    by_cases hgo : k < n
    · have hgo2 : (k : Int) < (n : Int) := by omega
      obtain ⟨_, _, q, _, hcell⟩ := (HI1'.out.below HB.out).form (by rw [ordI_len]; omega)
      cases q
      have q0 := hcell k (by rw [ordI_len]; exact hgo)
      rw [Nat.zero_add, ordI_get hgo] at q0
      have hx1 := ordL_at (id := id) hgo
      have hx2 := ordL_new (id := id) hgo
      have HTS := Hf.mk (take_snoc (l := ordL id n) (k := k) (by rw [ordL_len]; exact hgo))
      obtain ⟨x, hx⟩ : ∃ x, (ordL id n).getD k 0 = x := ⟨_, rfl⟩
      rw [hx] at q0 hx1 hx2 HTS
      have c0 := Go.Joins.cell_of_block HS.out x
      rw [seenC_get _ _ _ (by omega), decide_eq_false hx2] at c0
      have f0 := Go.Joins.unfrozen_of_block HS.out x
      have HST := Hf.mk (seenC_set (n + 1) ((ordL id n).take k) x (by omega))
      have i1 : ¬ (x : Int) < 1 := by omega
      have i2 : ¬ (n : Int) < (x : Int) := by omega
      have i3 : (x : Int) < (n : Int) + 1 := by omega
      clear hcell hx hx1 hx2
      go_wp2
      go_roundw
      case rel => exact ⟨k + 1, by omega, by go_num, ⟨by rw [HTS.out, ← HST.out]; exact Go.Joins.block_setCell HS.out _⟩, ⟨HB.out.setCell (Nat.le_refl _) _⟩⟩
      case measure => simp [intOf]; omega
    · obtain rfl : k = n := by omega
      clear HS HS0 HSB
      go_wp2
      generalize hw5 : wr = w5 at HB ⊢
      clear hw5
      have HI5 := Hf.mk (HI1'.out.below HB.out)
      have HJ5 := Hf.mk (HI2.out.below HB.out)
      go_loopw [10, 11] (fun v i wr => ∃ j : Nat, j ≤ k + 1 ∧ i = .int .i64 j ∧ Hf (wr.ownsRow w5.heap.size 3 1 v (((ordL id (k + 1)).take j).filter (fun x => decide (x ≠ k + 1))).length (intsN (((ordL id (k + 1)).take j).filter (fun x => decide (x ≠ k + 1))))) ∧ Hf (Below w5.heap.size w5 wr)) (fun _ i _ => k + 1 - (intOf i).toNat)
      case atStart => exact ⟨0, by omega, rfl, ⟨World.ownsRow_nil _ _ _ _⟩, ⟨Below.refl _ _⟩⟩
      case round =>
        obtain ⟨j, hj, rfl, HO, HB6⟩ := hrel
        by_cases hgo6 : j < k + 1
        · have hgo7 : (j : Int) < (k : Int) + 1 := by omega
          obtain ⟨_, _, q, _, hcell⟩ := (HJ5.out.below HB6.out).form (by rw [ordI_len]; omega)
          cases q
          have q0 := hcell j (by rw [ordI_len]; exact hgo6)
          rw [Nat.zero_add, ordI_get hgo6] at q0
          have HFS := Hf.mk (filter_snoc (ordL id (k + 1)) j (k + 1) (by rw [ordL_len]; exact hgo6))
          obtain ⟨x, hx⟩ : ∃ x, (ordL id (k + 1)).getD j 0 = x := ⟨_, rfl⟩
          rw [hx] at q0 HFS
          have hlen : (((ordL id (k + 1)).take j).filter (fun x => decide (x ≠ k + 1))).length ≤ j := Nat.le_trans (List.length_filter_le _ _) (by rw [List.length_take]; omega)
          generalize ((ordL id (k + 1)).take j).filter (fun x => decide (x ≠ k + 1)) = L at HO HFS hlen
          clear hcell hx
          by_cases hxe : x = k + 1
          · have hxe' : (x : Int) = (k : Int) + 1 := by omega
            rw [if_pos hxe, List.append_nil] at HFS
            clear hxe
            go_wp2
            go_roundw
            case rel => exact ⟨j + 1, by omega, by go_num, ⟨by rw [HFS.out]; exact HO.out⟩, HB6⟩
            case measure => simp [intOf]; omega
          · have hxe' : ¬ (x : Int) = (k : Int) + 1 := by omega
            rw [if_neg hxe] at HFS
            obtain ⟨i3, hi3, hz30, hz31, hz32⟩ := info_parts info3
            have HMX : Hf (L.length + 1 ≤ maxLen) := ⟨by unfold maxLen; omega⟩
            clear hxe
            go_wp2_with (at_builtin; refine wpList_append_own _ rfl (.tmp 83) (.tmp 88) 34 rfl w5.heap.size 3 i3 (.int .i64 0) 1 8 Try.underlying34 hi3 hz30 hz31 hz32 rfl (by decide) _ L.length (intsN L) rfl (HO.out.alloc _) ⟨wr.heap.size, 0, none⟩ 1 1 [.int .i64 (x : Nat)] rfl rfl (new_cells1 _ _ _) (by simp [Value.oneCell']) HMX.out (by omega) (by have := HB6.out.size; simp; omega) ?_; intro v4 w8 hown4 hgrow4 _; have HO7 := Hf.mk hown4; have HB7 := Hf.mk (below_own (HO.out.alloc _) (Below.refl _ _) hgrow4 HB6.out.size); clear hown4 hgrow4)
            go_roundw
            case rel => exact ⟨j + 1, by omega, by go_num, ⟨by rw [HFS.out, List.length_append, intsN_snoc]; exact HO7.out⟩, ⟨HB6.out.trans HB7.out⟩⟩
            case measure => simp [intOf]; omega
        · obtain rfl : j = k + 1 := by omega
          have e1 : (ordL id (k + 1)).take (k + 1) = ordL id (k + 1) := List.take_of_length_le (by rw [ordL_len]; exact Nat.le_refl _)
          have e2 := ordL_less id k
          rw [e1, e2] at HO
          obtain ⟨A', c', rfl, hrd, _⟩ := rdI_ownN HO.out
          have hsi := HSI.out wr A' c1 c' (HI5.out.below HB6.out) hrd
          have HSJ := Hf.mk hsi
          have hlk : (ordL id k).length = k := ordL_len id k
          rw [hlk]
          clear hsi hrd e1 e2 hlk
          go_wp2_with (go_at_call 28; (with_reducible refine HSJ.out.mono ?_); rintro e w9 ⟨rfl, hb9⟩; have HB9 := Hf.mk hb9; clear hb9)
          go_ret
          exact ⟨rfl, below_step (below_step (below_step (below_step (below_step HB0.out HB1.out) HB3.out) HB.out) HB6.out) HB9.out⟩
theorem rankWhole_walk (id : List Nat) (nodes : Int) (W : World) (hl : id.length = 32) (hb : ∀ c ∈ id, c < 256) (_h : (Lit.int .i64 nodes).wf = true) :
    Calls Try.prog 7 #[.agg (cellsOf id).toArray, .int .i64 nodes] W fun e w' => e = .returned (.bool true) ∧ Below W.heap.size W w' := whole17 id nodes W hl hb
end Go.Proofs.Ytaaepadhapfkoaa
