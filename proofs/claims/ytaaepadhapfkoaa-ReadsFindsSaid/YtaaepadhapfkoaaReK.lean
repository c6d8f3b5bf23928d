/-
  Reads: a read whose notes all come finds the bytes, if a node has them: the walk.
-/
import Derived.Test.YtaaepadhapfkoaaReSb
import Derived.Test.YtaaepadhapfkoaaRkR
import Derived.Deep.CutBlock
import Derived.Deep.CutRange
namespace Go.Proofs.Ytaaepadhapfkoaa
set_option linter.unusedSimpArgs false
set_option linter.unusedVariables false
open Go.RowKit

theorem isRow_B {w : World} {a : Option Addr} {len cap : Nat} {zs : List Int} (h : IsRow .u8 w a len cap zs) : ∃ l : List Nat, l.length = len ∧ Given w a cap l := by
  rcases h with ⟨rfl, rfl, rfl, rfl⟩ | ⟨x, rfl, hl, hm, hz, hcell, hw⟩
  · exact ⟨[], rfl, given_nil w⟩
  · unfold maxLen at hm
    have hlen : ((zs.take len).map Int.toNat).length = len := by rw [List.length_map, List.length_take]; omega
    refine ⟨(zs.take len).map Int.toNat, hlen, ⟨fun y hy => ?_, fun i hi => ?_⟩, by omega, by omega, fun e => by cases e⟩
    · obtain ⟨n, hn, rfl⟩ := List.mem_map.1 hy
      have := bounds_u8 (hw n (List.mem_of_mem_take hn))
      omega
    · rw [hlen] at hi
      obtain ⟨b, off, rfl, hc⟩ := ints_at hcell (by omega)
      have h1 := hc i (by omega)
      refine ⟨b, off, rfl, World.block_lt_of_cell? w ⟨b, off + i, none⟩ h1, ?_⟩
      rw [h1]
      have h2 := bounds_u8 (hw (zs.getD i 0) (by rw [List.getD_eq_getElem?_getD, List.getElem?_eq_getElem (show i < zs.length by omega)]; exact List.getElem_mem _))
      have e : ((zs.take len).map Int.toNat).getD i 0 = (zs.getD i 0).toNat := by
        rw [List.getD_eq_getElem?_getD, List.getElem?_map, List.getElem?_take, if_pos hi, List.getD_eq_getElem?_getD, List.getElem?_eq_getElem (show i < zs.length by omega)]; rfl
      rw [e, Int.toNat_of_nonneg h2.1]
theorem same_self {A B : Option Addr} {c d : Nat} {l : List Nat} {w : World} (ha : Given w A c l) (hb : Given w B d l) : Calls Try.prog 40 #[.slice A l.length c, .slice B l.length d] w fun e w' => e = .returned (.bool true) ∧ w' = w :=
  (sameBytes_any A B c d l l w ha hb).mono fun e w' hh => ⟨by rw [hh.1, decide_eq_true (rfl : l = l)], hh.2⟩
theorem NtF.range {w : World} {N : List Value} {g : Nat} {t : TypeId} {fr : Nat × Nat} (h : w.heap[g]? = some (.cells N.toArray t fr)) (j : Nat) : w.cell? ⟨g, j, none⟩ = N[j]? := by
  rw [Go.Joins.cell_of_block h]; exact List.getElem?_toArray
set_option maxHeartbeats 4000000 in
set_option maxRecDepth 100000 in
theorem finds_any (nodes copies me : Int) (l : List Int) (A : Option Addr) (lc : Nat) (bl : List Nat) (bA : Option Addr) (bc : Nat) (w : World) (hr : RdI w A l) (hll : l.length ≤ 9223372036854775807) (hg : Given w bA bc bl) :
    Calls Try.prog 10 #[.int .i64 nodes, .int .i64 copies, .int .i64 me, .slice A l.length lc, .slice bA bl.length bc] w fun e w' => e = .returned (.bool true) ∧ Below w.heap.size w w' := by
  obtain ⟨m, hm⟩ : ∃ m : Nat, nodes % 64 = m := ⟨(nodes % 64).toNat, by have := Int.emod_nonneg nodes (show (64 : Int) ≠ 0 by decide); omega⟩
  have hm2 : m < 64 := by have := Int.emod_lt_of_pos nodes (show (0 : Int) < 64 by decide); omega
  have HPK1 := Hf.mk (fun u => Pick_any nodes 64 u (by decide) (by decide))
  rw [hm] at HPK1
  obtain ⟨n, hn⟩ : ∃ n, m + 1 = n := ⟨_, rfl⟩
  have hn1 : 1 ≤ n := by omega
  have hn64 : n ≤ 64 := by omega
  obtain ⟨p1, hp1⟩ : ∃ p : Nat, copies % (n : Int) = p := ⟨(copies % (n : Int)).toNat, by have := Int.emod_nonneg copies (show (n : Int) ≠ 0 by omega); omega⟩
  have hp1' : p1 < n := by have := Int.emod_lt_of_pos copies (show (0 : Int) < n by omega); omega
  have HPK2 := Hf.mk (fun u => Pick_any copies n u (by omega) (by omega))
  rw [hp1] at HPK2
  obtain ⟨p2, hp2⟩ : ∃ p : Nat, me % (n : Int) = p := ⟨(me % (n : Int)).toNat, by have := Int.emod_nonneg me (show (n : Int) ≠ 0 by omega); omega⟩
  have hp2' : p2 < n := by have := Int.emod_lt_of_pos me (show (0 : Int) < n by omega); omega
  have HPK3 := Hf.mk (fun u => Pick_any me n u (by omega) (by omega))
  rw [hp2] at HPK3
  obtain ⟨c, hc⟩ : ∃ c, p1 + 1 = c := ⟨_, rfl⟩
  obtain ⟨q, hq⟩ : ∃ c, p2 + 1 = c := ⟨_, rfl⟩
  have hc1 : 1 ≤ c := by omega
  have hcn : c ≤ n := by omega
  have hq1 : 1 ≤ q := by omega
  have hqn : q ≤ n := by omega
  have e1 : (1 : Int) + (m : Int) = (n : Int) := by omega
  have e2 : (1 : Int) + (p1 : Int) = (c : Int) := by omega
  have e3 : (1 : Int) + (p2 : Int) = (q : Int) := by omega
  have HAW := Hf.mk (fun u => awake_any u)
  have HRI := Hf.mk hr
  have HBG := Hf.mk hg
  have HPN := Hf.mk (fun z u => Pick_any z n u (by omega) (by omega))
  clear hm hn hp1 hc hp2 hq hp1' hp2' hm2 hr hg
  go_enter Try.func10, Try.ntmps10
  go_upto_region 3 with (first
    | (go_at_call 36; (with_reducible refine (HAW.out _).mono ?_); rintro e w1 ⟨rfl, hb1⟩; have HB1 := Hf.mk hb1; clear hb1)
    | (go_at_call 33; (with_reducible refine (HPK1.out _).mono ?_); rintro e w' ⟨rfl, hw'⟩; subst hw'))
  go_upto_region 5 with (first
    | (go_at_call 33; (with_reducible refine (HPK2.out _).mono ?_); rintro e w' ⟨rfl, hw'⟩; subst hw')
    | (go_at_call 33; (with_reducible refine (HPK3.out _).mono ?_); rintro e w' ⟨rfl, hw'⟩; subst hw'))
  have hC := heap_alloc_new w1 (.cells #[Value.int .i64 (q : Nat), .int .i64 1, .int .i64 1] 56)
  have hb2 : Below w1.heap.size w1 (w1.alloc (.cells #[Value.int .i64 (q : Nat), .int .i64 1, .int .i64 1] 56)) := (Below.refl _ _).alloc (Nat.le_refl _) _
  obtain ⟨gC, hgC⟩ : ∃ g, w1.heap.size = g := ⟨_, rfl⟩
  have HB2 := Hf.mk (below_step HB1.out hb2)
  rw [hgC] at hC ⊢
  have HGC : Hf (w.heap.size ≤ gC) := ⟨by rw [← hgC]; exact HB1.out.size⟩
  generalize w1.alloc (.cells #[Value.int .i64 (q : Nat), .int .i64 1, .int .i64 1] 56) = W2 at *
  have HC := Hf.mk hC
  have HSM : Hf (∀ u, Below w.heap.size w u → Calls Try.prog 38 #[.slice bA bl.length bc] u fun e w' => e = .returned (.agg (cellsOf (Sha.sum bl)).toArray) ∧ Below u.heap.size u w') := ⟨fun u hu => sum_any bA bc bl u (HBG.out.below hu) (by have := HBG.out.2.1; have := HBG.out.2.2.1; omega)⟩
  have HNW := Hf.mk (fun u => new_any 3 (Sha.sum bl) q n c q 1 1 1 1000 u (Sha.sum_len _) (Sha.sum_lt _) (find_ok hn1 hn64 hc1 hcn hq1 hqn))
  have HOK : Hf ((findR (Sha.sum bl) q n c).Ok) := ⟨ok_made (Sha.sum_len _) (Sha.sum_lt _) (find_ok hn1 hn64 hc1 hcn hq1 hqn)⟩
  have HS0 : Hf (W2.drew.cell? ⟨gC, 0, none⟩ = some (.int .i64 q) ∧ W2.drew.cell? ⟨gC, 1, none⟩ = some (.int .i64 1) ∧ W2.drew.cell? ⟨gC, 2, none⟩ = some (.int .i64 1)) := ⟨⟨Go.Joins.cell_of_block hC 0, Go.Joins.cell_of_block hC 1, Go.Joins.cell_of_block hC 2⟩⟩
  have HB2D := Hf.mk (HB2.out.drew)
  have HCD : Hf (W2.drew.heap[gC]? = some (.cells #[.int .i64 q, .int .i64 1, .int .i64 1] 56 (0, 0))) := ⟨hC⟩
  clear hC hb2 hgC HB1 e1 e2 e3 HPK1 HPK2 HPK3
  change Hf (∀ u, Calls Try.prog 37 #[.int .i64 3, .agg (cellsOf (Sha.sum bl)).toArray, .int .i64 q, .int .i64 n, .int .i64 c, .agg #[.int .i64 q, .int .i64 1, .int .i64 1], .int .i64 1, .int .i64 1000] u fun e w' => ∃ p a1 c1 a2 c2, e = .returned (.tuple #[.pointer (some ⟨p, 0, none⟩), .int .i64 0]) ∧ u.heap.size ≤ p ∧ RAt w' p (findR (Sha.sum bl) q n c) a1 c1 a2 c2 none 0 ∧ Below u.heap.size u w') at HNW
  refine wp_region_held_drew (S := fun u => u.cell? ⟨gC, 0, none⟩ = some (.int .i64 q) ∧ u.cell? ⟨gC, 1, none⟩ = some (.int .i64 1) ∧ u.cell? ⟨gC, 2, none⟩ = some (.int .i64 1)) (by kernel_rfl) HS0.out (fun hHeld => ?_)
  clear HB2 HC HS0
  generalize W2.drew = w3 at *
  change wpAnyH _ _ _ _ _ 12 (Array.replicate 12 false) _ _
  refine wpAnyH_take (i := 0) rfl (by kernel_rfl) (by kernel_rfl) (by kernel_rfl) (fun _ _ _ h => h) (Or.inl ⟨by rfl, (by intro u hSw; go_simp; first | done | (with_reducible rfl))⟩) hHeld ?_
  (try simp only [List.getElem_toArray, List.getElem_cons_succ, List.getElem_cons_zero, Act.put, List.setIfInBounds_toArray, List.set_cons_zero, List.set_cons_succ])
  refine wpAnyH_take (i := 2) rfl (by kernel_rfl) (by kernel_rfl) (by kernel_rfl) (fun _ _ _ h => h) (Or.inl ⟨by rfl, (by intro u hSw; go_simp; first | done | (with_reducible rfl))⟩) hHeld ?_
  (try simp only [List.getElem_toArray, List.getElem_cons_succ, List.getElem_cons_zero, Act.put, List.setIfInBounds_toArray, List.set_cons_zero, List.set_cons_succ])
  refine wpAnyH_take (i := 3) rfl (by kernel_rfl) (by kernel_rfl) (by kernel_rfl) (fun _ _ _ h => h) (Or.inl ⟨by rfl, (by intro u hSw; go_simp; first | done | (with_reducible rfl))⟩) hHeld ?_
  (try simp only [List.getElem_toArray, List.getElem_cons_succ, List.getElem_cons_zero, Act.put, List.setIfInBounds_toArray, List.set_cons_zero, List.set_cons_succ])
  refine wpAnyH_take (i := 4) rfl (by kernel_rfl) (by kernel_rfl) (by kernel_rfl) (fun _ _ _ h => h) (Or.inl ⟨by rfl, (by intro u hSw; go_simp; first | done | (with_reducible rfl))⟩) hHeld ?_
  (try simp only [List.getElem_toArray, List.getElem_cons_succ, List.getElem_cons_zero, Act.put, List.setIfInBounds_toArray, List.set_cons_zero, List.set_cons_succ])
  refine wpAnyH_take (i := 5) rfl (by kernel_rfl) (by kernel_rfl) (by kernel_rfl) (fun _ _ _ h => h) (Or.inl ⟨by rfl, (by intro u hSw; obtain ⟨s0, s1, s2⟩ := hSw; go_simp; first | done | (with_reducible rfl))⟩) hHeld ?_
  (try simp only [List.getElem_toArray, List.getElem_cons_succ, List.getElem_cons_zero, Act.put, List.setIfInBounds_toArray, List.set_cons_zero, List.set_cons_succ])
  refine wpAnyH_ready (rs := [1]) (by kernel_rfl) (by simp) ?_
  refine AllReadyH.cons rfl (fun K hK => ?_) AllReadyH.nil
  go_simp
  go_at_call 38
  (with_reducible refine (HSM.out _ HB2D.out).mono ?_)
  rintro e w4 ⟨rfl, hb4⟩
  have HB4 := Hf.mk (below_step HB2D.out hb4)
  have HC4 := Hf.mk (keptB HCD.out hb4)
  have hk : w4.cell? ⟨gC, 0, none⟩ = some (.int .i64 q) ∧ w4.cell? ⟨gC, 1, none⟩ = some (.int .i64 1) ∧ w4.cell? ⟨gC, 2, none⟩ = some (.int .i64 1) := ⟨Go.Joins.cell_of_block HC4.out 0, Go.Joins.cell_of_block HC4.out 1, Go.Joins.cell_of_block HC4.out 2⟩
  clear hb4 hHeld
  refine hK.out _ _ hk (fun hHeld => ?_)
  clear hK K hk
  (try simp only [List.getElem_toArray, List.getElem_cons_succ, List.getElem_cons_zero, Act.put, List.setIfInBounds_toArray, List.set_cons_zero, List.set_cons_succ])
  refine wpAnyH_ready (rs := [6]) (by kernel_rfl) (by simp) ?_
  refine AllReadyH.cons rfl (fun K hK => ?_) AllReadyH.nil
  go_simp
  go_at_call 37
  (with_reducible refine (HNW.out _).mono ?_)
  rintro e w5 ⟨p, a1, c1, a2, c2, rfl, hp, hr, hb5⟩
  have HB5 := Hf.mk (below_step HB4.out hb5)
  have HC5 := Hf.mk (keptB HC4.out hb5)
  have HP : Hf (w.heap.size ≤ p) := ⟨Nat.le_trans HB4.out.size hp⟩
  have HR5 := Hf.mk hr
  have hk : w5.cell? ⟨gC, 0, none⟩ = some (.int .i64 q) ∧ w5.cell? ⟨gC, 1, none⟩ = some (.int .i64 1) ∧ w5.cell? ⟨gC, 2, none⟩ = some (.int .i64 1) := ⟨Go.Joins.cell_of_block HC5.out 0, Go.Joins.cell_of_block HC5.out 1, Go.Joins.cell_of_block HC5.out 2⟩
  clear hb5 hHeld hp hr
  refine hK.out _ _ hk (fun hHeld => ?_)
  clear hK K hk
  (try simp only [List.getElem_toArray, List.getElem_cons_succ, List.getElem_cons_zero, Act.put, List.setIfInBounds_toArray, List.set_cons_zero, List.set_cons_succ])
  refine wpAnyH_take (i := 7) rfl (by kernel_rfl) (by kernel_rfl) (by kernel_rfl) (fun _ _ _ h => h) (Or.inl ⟨by rfl, (by intro u hSw; go_simp; first | done | (with_reducible rfl))⟩) hHeld ?_
  (try simp only [List.getElem_toArray, List.getElem_cons_succ, List.getElem_cons_zero, Act.put, List.setIfInBounds_toArray, List.set_cons_zero, List.set_cons_succ])
  refine wpAnyH_take (i := 8) rfl (by kernel_rfl) (by kernel_rfl) (by kernel_rfl) (fun _ _ _ h => h) (Or.inl ⟨by rfl, (by intro u hSw; go_simp; first | done | (with_reducible rfl))⟩) hHeld ?_
  (try simp only [List.getElem_toArray, List.getElem_cons_succ, List.getElem_cons_zero, Act.put, List.setIfInBounds_toArray, List.set_cons_zero, List.set_cons_succ])
  refine wpAnyH_take (i := 9) rfl (by kernel_rfl) (by kernel_rfl) (by kernel_rfl) (fun _ _ _ h => h) (Or.inl ⟨by rfl, (by intro u hSw; go_simp; first | done | (with_reducible rfl))⟩) hHeld ?_
  (try simp only [List.getElem_toArray, List.getElem_cons_succ, List.getElem_cons_zero, Act.put, List.setIfInBounds_toArray, List.set_cons_zero, List.set_cons_succ])
  refine wpAnyH_take (i := 10) rfl (by kernel_rfl) (by kernel_rfl) (by kernel_rfl) (fun _ _ _ h => h) (Or.inl ⟨by rfl, (by intro u hSw; go_simp; first | done | (with_reducible rfl))⟩) hHeld ?_
  (try simp only [List.getElem_toArray, List.getElem_cons_succ, List.getElem_cons_zero, Act.put, List.setIfInBounds_toArray, List.set_cons_zero, List.set_cons_succ])
  refine wpAnyH_take (i := 11) rfl (by kernel_rfl) (by kernel_rfl) (by kernel_rfl) (fun _ _ _ h => h) (Or.inl ⟨by rfl, (by intro u hSw; go_simp; first | done | (with_reducible rfl))⟩) hHeld ?_
  (try simp only [List.getElem_toArray, List.getElem_cons_succ, List.getElem_cons_zero, Act.put, List.setIfInBounds_toArray, List.set_cons_zero, List.set_cons_succ])
  refine wpAnyH_done (by kernel_rfl) ?_ _
  clear hHeld HNW HB2D HCD HB4 HC4
  by_cases hwl : l.length ≤ 70
  · have hwl1 : ¬ (70 : Int) < (l.length : Int) := by omega
    by_cases hbl : bl.length ≤ 300
    · have hbl1 : ¬ (300 : Int) < (bl.length : Int) := by omega
      have hnI : (n : Int) ≤ 64 := by omega
      have hmk : ∀ V, _ := fun V => make_bools (n + 1) (by omega) V
      rw [show ((n + 1 : Nat) : Int) = (n : Int) + 1 by omega] at hmk
      go_upto_region 12 with fail
      have hs0 := heap_alloc_new w5 (.cells (seenC (n + 1) []) 4)
      have hsb : Below w5.heap.size w5 (w5.alloc (.cells (seenC (n + 1) []) 4)) := (Below.refl _ _).alloc (Nat.le_refl _) _
      obtain ⟨gH, hgH⟩ : ∃ g, w5.heap.size = g := ⟨_, rfl⟩
      rw [hgH] at hs0 ⊢
      have HGH := Hf.mk hgH.symm
      have HS0 : Hf ((w5.alloc (.cells (seenC (n + 1) []) 4)).heap[gH]? = some (.cells (seenC (n + 1) (picks n l 0)) 4 (0, 0))) := ⟨hs0⟩
      have HSB := Hf.mk hsb
      have HRI5 := Hf.mk (HRI.out.below HB5.out)
      clear hs0 hsb hmk hgH
      generalize w5.alloc (.cells (seenC (n + 1) []) 4) = w6 at *
      go_wp2
      go_loopw [16, 17] (fun va i wr => ∃ k : Nat, k ≤ l.length ∧ va = .bool (anyO q (picks n l k)) ∧ i = .int .i64 k ∧ Hf (wr.heap[gH]? = some (.cells (seenC (n + 1) (picks n l k)) 4 (0, 0))) ∧ Hf (Below w5.heap.size w5 wr)) (fun _ i _ => l.length - (intOf i).toNat)
      case atStart => exact ⟨0, by omega, rfl, rfl, HS0, HSB⟩
      case round =>
        obtain ⟨k, hk, rfl, rfl, HS, HB⟩ := hrel
        clear HS0 HSB
        by_cases hgo : k < l.length
        · have hgo2 : (k : Int) < (l.length : Int) := by omega
          obtain ⟨_, _, rfl, _, hcell⟩ := (HRI5.out.below HB.out).form (by omega)
          have q0 := hcell k hgo
          have HPS := Hf.mk (picks_succ (n := n) hgo)
          obtain ⟨z, hz⟩ : ∃ z, l.getD k 0 = z := ⟨_, rfl⟩
          rw [hz] at q0 HPS
          obtain ⟨hx1, hx2, hx3⟩ := pickN_at hn1 z
          have HPZ := Hf.mk (fun u => HPN.out z u)
          obtain ⟨x, hx⟩ : ∃ x, pickN n z = x := ⟨_, rfl⟩
          rw [hx] at hx1 hx2 hx3 HPS
          obtain ⟨zm, hzm⟩ : ∃ y, z % (n : Int) = y := ⟨_, rfl⟩
          rw [hzm] at hx3 HPZ
          obtain rfl : zm = (x : Int) - 1 := by omega
          have c0 := Go.Joins.cell_of_block HS.out x
          rw [seenC_get _ _ _ (by omega)] at c0
          have f0 := Go.Joins.unfrozen_of_block HS.out x
          have HST := Hf.mk (seenC_set (n + 1) (picks n l k) x (by omega))
          have i3 : (x : Int) < (n : Int) + 1 := by omega
          have i4 : (1 : Int) + ((x : Int) - 1) = (x : Int) := by omega
          have hxI : (1 : Int) ≤ (x : Int) := by omega
          obtain ⟨bv, hbv⟩ : ∃ y, anyO q (picks n l k) = y := ⟨_, rfl⟩
          rw [hbv]
          have HBV := Hf.mk hbv
          clear hcell hz hx hzm hx3 hbv
          go_upto_region 17 with (go_at_call 33; (with_reducible refine (HPZ.out _).mono ?_); rintro e w' ⟨rfl, hw'⟩; subst hw')
          cases bv with
          | true =>
            go_wp2
            go_roundw
            case rel => exact ⟨k + 1, by omega, by rw [HPS.out, anyO_snoc, HBV.out, Bool.true_or]; first | done | rfl, by go_num, ⟨by rw [HPS.out, ← HST.out]; exact Go.Joins.block_setCell HS.out _⟩, ⟨HB.out.setCell (by rw [HGH.out]; exact Nat.le_refl _) _⟩⟩
            case measure => simp [intOf]; omega
          | false =>
            by_cases hxq : x = q
            · have hxb : ((x : Int) == (q : Int)) = true := beq_iff_eq.2 (by omega)
              have hxn : ((x : Int) != (q : Int)) = false := by rw [bne, hxb]; rfl
              have HXN := Hf.mk hxn
              clear hxq
              go_wp2
              go_roundw
              case rel => exact ⟨k + 1, by omega, by rw [HPS.out, anyO_snoc, HBV.out, Bool.false_or, HXN.out]; first | done | rfl, by go_num, ⟨by rw [HPS.out, ← HST.out]; exact Go.Joins.block_setCell HS.out _⟩, ⟨HB.out.setCell (by rw [HGH.out]; exact Nat.le_refl _) _⟩⟩
              case measure => simp [intOf]; omega
            · have hxb : ((x : Int) == (q : Int)) = false := beq_eq_false_iff_ne.2 (by omega)
              have hxn : ((x : Int) != (q : Int)) = true := by rw [bne, hxb]; rfl
              have HXN := Hf.mk hxn
              clear hxq
              go_wp2
              go_roundw
              case rel => exact ⟨k + 1, by omega, by rw [HPS.out, anyO_snoc, HBV.out, Bool.false_or, HXN.out]; first | done | rfl, by go_num, ⟨by rw [HPS.out, ← HST.out]; exact Go.Joins.block_setCell HS.out _⟩, ⟨HB.out.setCell (by rw [HGH.out]; exact Nat.le_refl _) _⟩⟩
              case measure => simp [intOf]; omega
        · obtain rfl : k = l.length := by omega
          obtain ⟨base, hbase⟩ : ∃ z, wr.heap.size = z := ⟨_, rfl⟩
          have HR7 := Hf.mk (HR5.out.below HB.out)
          have HPB : Hf (p < base) := ⟨by rw [← hbase]; exact HR7.out.lt⟩
          have HGHB : Hf (gH < base) := ⟨by rw [← hbase]; exact (Array.getElem?_eq_some_iff.1 HS.out).1⟩
          have HB7 := Hf.mk (below_step HB5.out HB.out)
          have HBB : Hf (w.heap.size ≤ base) := ⟨by rw [← hbase]; exact HB7.out.size⟩
          have HC7 := Hf.mk (keptB HC5.out HB.out)
          obtain ⟨m0, hso, hfs⟩ := find_begin (id := Sha.sum bl) (me := q) (n := n) (c := c) (hv := hasF (picks n l l.length)) (b := bl) hn64 hc1
          have HST : Hf (Calls Try.prog 39 #[.pointer (some ⟨p, 0, none⟩), .slice none 0 0, .bool false] wr (StartsAt wr p (findR (Sha.sum bl) q n c) a1 c1 a2 c2 ((findR (Sha.sum bl) q n c).startR [] false) ((findR (Sha.sum bl) q n c).startO [] false) 0)) := ⟨start_any HR7.out HOK.out rfl none 0 [] false (given_nil _) (by simp)⟩
          rw [hso] at HST
          have HFS := Hf.mk hfs
          have HOK0 := Hf.mk (ok_startR HOK.out (d := []) (has := false) (by simp))
          have HPA := Hf.mk (picks_at hn1 l l.length)
          clear hso hfs HR5 HB5 HC5 HB HRI5 HRI
          generalize (findR (Sha.sum bl) q n c).startR [] false = R0 at *
          generalize picks n l l.length = xs at *
          go_upto_region 19 with (go_at_call 39; (with_reducible refine HST.out.mono ?_); rintro e w8 ⟨v8, rfl, hn8, hr8, hg8⟩; have HN8 := Hf.mk hn8; have HR8 := Hf.mk hr8; have HG8 := Hf.mk hg8; clear hn8 hr8 hg8)
          have hmk : ∀ V, _ := fun V => make_bools (n + 1) (by omega) V
          rw [show ((n + 1 : Nat) : Int) = (n : Int) + 1 by omega] at hmk
          go_upto_region 20 with fail
          have HFW : Hf (FW w (w8.alloc (.cells (seenC (n + 1) []) 4)) n p gC gH w8.heap.size base q a1 c1 a2 c2 xs (askedN (findR (Sha.sum bl) q n c) (min 0 m0)) v8 R0 (gets1 (findR (Sha.sum bl) q n c) m0 ++ [])) := ⟨by
            have hlt : p < wr.heap.size := by rw [hbase]; exact HPB.out
            have := FW.begin HB7.out HP.out hlt HFS.out HOK0.out HC7.out HS.out HR7.out HN8.out HR8.out HG8.out
            rwa [hbase] at this⟩
          have HBB' := HBB
          clear HN8 HR8 HG8 HR7 HC7 HB7 HS HST HPB HGHB HBB hbase hmk HOK0 HBB'
          obtain ⟨gS, hgS⟩ : ∃ g, w8.heap.size = g := ⟨_, rfl⟩
          rw [hgS] at HFW ⊢
          clear hgS
          generalize w8.alloc (.cells (seenC (n + 1) []) 4) = w9 at *
          have hML : (findR (Sha.sum bl) q n c).ord.length ≤ 64 := HOK.out.ordl
          have HML := Hf.mk hML
          clear hML
          obtain ⟨A8, k8, hv8⟩ := HFW.out.len HFS.out
          have hv8 : v8 = .slice A8 m0 k8 := hv8
          subst hv8
          go_wp2
          go_loopw [19, 22] (fun vv i wr => ∃ (k m : Nat) (R : Rdr) (hs : List (Bool × Int)) (A : Option Addr) (cc : Nat), k ≤ m + hs.length ∧ vv = .slice A (m + hs.length) cc ∧ i = .int .i64 k ∧ Hf (FindSt (findR (Sha.sum bl) q n c) (hasF xs) bl R m hs k) ∧ Hf (FW w wr n p gC gH gS base q a1 c1 a2 c2 xs (askedN (findR (Sha.sum bl) q n c) (min k m)) (.slice A (m + hs.length) cc) R (gets1 (findR (Sha.sum bl) q n c) m ++ hs))) (fun _ i _ => 130 - (intOf i).toNat)
          case atStart => exact ⟨0, m0, R0, [], A8, k8, by omega, rfl, rfl, HFS, HFW⟩
          case round =>
            obtain ⟨k, m, R, hs, A2, cc, hk, rfl, rfl, HF, HW⟩ := hrel
            clear HFS HFW
            have hm64 : m ≤ 64 := Nat.le_trans HF.out.mn HML.out
            have hh64 : hs.length ≤ 64 := HF.out.few
            by_cases hgo : k < m + hs.length
            · have hgo2 : (k : Int) < (m : Int) + (hs.length : Int) := by omega
              have hgo3 : (k : Int) < ((m + hs.length : Nat) : Int) := by omega
              by_cases hkm : k < m
              · obtain ⟨g, c9, x, ev, hr, hox, x1, x2, x3⟩ := HW.out.get HF.out (Sha.sum_len _) hkm
                have HOX := Hf.mk hox
                have hN1 := nt_one 7 q (x : Nat) q 1 1 0 false (Sha.sum bl) none 0 0
                clear hox
                cases ev
                have hN0 := nt_len 7 q (x : Nat) q 1 1 0 false (Sha.sum_len bl) (.slice none 0 0)
                obtain ⟨N, hN⟩ : ∃ N, nt 7 (q : Int) (x : Nat) q 1 1 0 false (Sha.sum bl) (.slice none 0 0) = N := ⟨_, rfl⟩
                rw [hN] at hr hN0 hN1
                have HRN := Hf.mk hr
                have HNL := Hf.mk hN0
                have HN1 := Hf.mk hN1
                have HNE := Hf.mk hN
                have HZN : Hf ((Try.prog.info? 69).map (·.size) = some N.length) := ⟨by rw [hN0]; exact size69⟩
                have hz := zeroV69
                have hzl := nt_len 0 0 0 0 0 0 0 false (List.length_replicate (n := 32) (a := 0)) (.slice none 0 0)
                generalize nt 0 0 0 0 0 0 0 false (List.replicate 32 0) (.slice none 0 0) = z at hz hzl
                have HZL := Hf.mk hzl
                clear hr hN0 hN1 hN hzl
                have hgl := HW.out.bl
                go_upto_region 24 with (first
                  | (refine wpList_load_midW (by rfl) 69 (.tmp 111) (by rfl) g (k * 48) (by first | rfl | (simp; done)) N _ HRN.out Try.underlying69 rfl HZN.out ?_)
                  | (refine wpList_store_row rfl 69 (.tmp 23) (.tmp 112) rfl wr.heap.size N.toArray rfl rfl 69 z.toArray (heap_alloc_new _ _) (size69.trans (by rw [List.size_toArray, HNL.out])) (by rw [List.size_toArray, List.size_toArray, HZL.out, HNL.out]) (all_oneCell_toArray HN1.out) ?_))
                generalize hw1 : World.setRow _ _ _ = W1
                dsimp only [Act.put]
                have hNB : W1.heap[wr.heap.size]? = some (.cells N.toArray 69 (0, 0)) := by rw [← hw1]; exact setRow_heap _ _ z.toArray N.toArray 69 (0, 0) (heap_alloc_new _ _)
                have hb1 : Below wr.heap.size wr W1 := by rw [← hw1]; exact Below.setRow' ((Below.refl _ _).alloc (Nat.le_refl _) _) (Nat.le_refl _) _
                obtain ⟨gN, hgN⟩ : ∃ z, wr.heap.size = z := ⟨_, rfl⟩
                have HW1 := Hf.mk (HW.out.below hb1)
                have HBW1 := Hf.mk hb1
                rw [hgN] at hNB ⊢
                have HNB := Hf.mk hNB
                have HGN : Hf (w.heap.size ≤ gN ∧ gN < W1.heap.size) := ⟨by rw [← hgN]; exact HW.out.bel.size, (Array.getElem?_eq_some_iff.1 hNB).1⟩
                have cN : ∀ j, W1.cell? ⟨gN, j, none⟩ = N[j]? := fun j => NtF.range hNB j
                clear hw1 hNB hb1 hgN HRN HZN HW
                have hng := fun i => nt_get (kind := 7) (me := (q : Int)) (who := (x : Int)) (cn := (q : Int)) (cb := 1) (cc := 1) (set := 0) (yes := false) (id := Sha.sum bl) (dv := .slice none 0 0) (Sha.sum_len bl) (i := i)
                rw [HNE.out] at hng
                have n0 := (cN 0).trans ((hng 0).1 (by decide))
                have n1 := (cN 1).trans ((hng 1).1 (by decide))
                have n2 := (cN 2).trans ((hng 2).1 (by decide))
                have n3 := (cN 3).trans ((hng 3).1 (by decide))
                have n4 := (cN 4).trans ((hng 4).1 (by decide))
                have n5 := (cN 5).trans ((hng 5).1 (by decide))
                have HN2 := Hf.mk n2
                have HN13 : Hf (W1.rangeAt gN 13 (cellsOf (Sha.sum bl))) := ⟨fun j v hv => by
                  have hj : j < 32 := by have := (List.getElem?_eq_some_iff.1 hv).1; rwa [cellsOf_length, Sha.sum_len] at this
                  exact (cN (13 + j)).trans (((hng j).2.1 hj).trans hv)⟩
                have hmin : min k m = k := by omega
                rw [hmin] at HW1
                have s0 := Go.Joins.cell_of_block HW1.out.see x
                rw [seenC_get _ _ _ (by omega), decide_eq_false (askedN_new (by have := HF.out.mn; omega) HOX.out)] at s0
                have f0 := Go.Joins.unfrozen_of_block HW1.out.see x
                have d0 := Go.Joins.cell_of_block HW1.out.cal 0
                have d1 := Go.Joins.cell_of_block HW1.out.cal 1
                have d2 := Go.Joins.cell_of_block HW1.out.cal 2
                have hneq : ∀ u, (binOp .neq 56 (.agg #[.int .i64 (q : Nat), .int .i64 1, .int .i64 1]) (.agg #[.int .i64 (q : Nat), .int .i64 1, .int .i64 1])).run Try.prog u = .ok (.bool false) u := fun u => by rw [run_neq56]; simp
                have i1 : ¬ (x : Int) < 1 := by omega
                have i2 : ¬ (n : Int) < (x : Int) := by omega
                have i3 : (x : Int) < (n : Int) + 1 := by omega
                have i4 : ¬ (x : Int) = (q : Int) := by omega
                have i5 : ((x : Int) == (q : Int)) = false := beq_eq_false_iff_ne.2 i4
                have i6 : ((q : Int) == (q : Int)) = true := beq_iff_eq.2 rfl
                have i7 : ((q : Int) != (q : Int)) = false := by rw [bne, i6]; rfl
                have HI3 := Hf.mk i3
                clear hng cN hmin
                go_upto_region 29 with fail
                go_upto_region 30 with fail
                have hw2 := HW1.out.seen (x := x) (by omega)
                have hox : ∀ j, j ≠ gS → (W1.setCell ⟨gS, x, none⟩ (.bool true)).heap[j]? = W1.heap[j]? := fun j hj => Below.heap_setCell _ ⟨gS, x, none⟩ _ j hj
                have hgns : gN ≠ gS := block_ne HNB.out HW1.out.see (by decide)
                have hnb2 : (W1.setCell ⟨gS, x, none⟩ (.bool true)).heap[gN]? = some (.cells N.toArray 69 (0, 0)) := (hox gN hgns).trans HNB.out
                have hr13 : (W1.setCell ⟨gS, x, none⟩ (.bool true)).rangeAt gN 13 (cellsOf (Sha.sum bl)) := fun j v hv => (World.cell?_of_block (a := ⟨gN, 13 + j, none⟩) (hox gN hgns)).trans (HN13.out j v hv)
                have hn2 : (W1.setCell ⟨gS, x, none⟩ (.bool true)).cell? ⟨gN, 2, none⟩ = some (.int .i64 x) := (World.cell?_of_block (a := ⟨gN, 2, none⟩) (hox gN hgns)).trans HN2.out
                generalize W1.setCell ⟨gS, x, none⟩ (.bool true) = W2g at *
                obtain ⟨hxv, hhx⟩ : ∃ y, hasF xs (x : Int) = y := ⟨_, rfl⟩
                have HHX := Hf.mk hhx
                have hh0 := Go.Joins.cell_of_block hw2.hav x
                rw [seenC_get _ _ _ (by omega), show decide (x ∈ xs) = hxv from hhx] at hh0
                have hS0 : W2g.drew.cell? ⟨gN, 2, none⟩ = some (.int .i64 x) ∧ W2g.drew.cell? ⟨gC, 0, none⟩ = some (.int .i64 q) ∧ W2g.drew.cell? ⟨gC, 1, none⟩ = some (.int .i64 1) ∧ W2g.drew.cell? ⟨gC, 2, none⟩ = some (.int .i64 1) ∧ W2g.drew.cell? ⟨gH, x, none⟩ = some (.bool hxv) ∧ W2g.drew.rangeAt gN 13 (cellsOf (Sha.sum bl)) := ⟨hn2, Go.Joins.cell_of_block hw2.cal 0, Go.Joins.cell_of_block hw2.cal 1, Go.Joins.cell_of_block hw2.cal 2, hh0, hr13⟩
                have HW2 := Hf.mk (hw2.below (Below.refl W2g.heap.size W2g).drew)
                have HS0 := Hf.mk hS0
                have HLT : Hf (gN < W2g.drew.heap.size ∧ gC < W2g.drew.heap.size ∧ gH < W2g.drew.heap.size) := ⟨⟨(Array.getElem?_eq_some_iff.1 hnb2).1, (Array.getElem?_eq_some_iff.1 hw2.cal).1, (Array.getElem?_eq_some_iff.1 hw2.hav).1⟩⟩
                have HBD := Hf.mk (built_got 8 x q q 1 1 hxv (Sha.sum bl) (Sha.sum_len _))
                have HSI : Hf ((Try.prog.info? 23).map (·.size) = some (cellsOf (Sha.sum bl)).length) := ⟨by rw [cellsOf_length, Sha.sum_len]; exact size23⟩
                have HYL := Hf.mk (nt_len 8 x q q 1 1 0 hxv (Sha.sum_len bl) (.slice none 0 0))
                have HY1 := Hf.mk (nt_one 8 x q q 1 1 0 hxv (Sha.sum bl) none 0 0)
                obtain ⟨Y, hY⟩ : ∃ y, nt 8 (x : Int) (q : Int) (q : Int) 1 1 0 hxv (Sha.sum bl) (.slice none 0 0) = y := ⟨_, rfl⟩
                rw [hY] at HBD HYL HY1
                have HYE := Hf.mk hY
                obtain ⟨zs, hzs⟩ : ∃ y, cellsOf (Sha.sum bl) = y := ⟨_, rfl⟩
                rw [hzs] at HBD HSI HS0
                clear hox hgns hnb2 hr13 hn2 hh0 hS0 hw2 hhx hY hzs s0 f0 d0 d1 d2 n0 n1 n2 n3 n4 n5 hneq i1 i2 i4 i5 i6 i7 HN13 HN2 HW1 HNB HBW1
                refine wp_region_held_drew (S := fun u => u.cell? ⟨gN, 2, none⟩ = some (.int .i64 x) ∧ u.cell? ⟨gC, 0, none⟩ = some (.int .i64 q) ∧ u.cell? ⟨gC, 1, none⟩ = some (.int .i64 1) ∧ u.cell? ⟨gC, 2, none⟩ = some (.int .i64 1) ∧ u.cell? ⟨gH, x, none⟩ = some (.bool hxv) ∧ u.rangeAt gN 13 zs) (by kernel_rfl) HS0.out (fun hHeld => ?_)
                clear HS0
                generalize W2g.drew = V at *
                change wpAnyH _ _ _ _ _ 14 (Array.replicate 14 false) _ _
                refine wpAnyH_take (i := 0) rfl (by kernel_rfl) (by kernel_rfl) (by kernel_rfl) (fun _ _ _ h => h) (Or.inl ⟨by rfl, (by intro u hSw; obtain ⟨s0, s1, s2, s3, s4, s5⟩ := hSw; go_simp; first | done | (with_reducible rfl))⟩) hHeld ?_
                (try simp only [List.getElem_toArray, List.getElem_cons_succ, List.getElem_cons_zero, Act.put, List.setIfInBounds_toArray, List.set_cons_zero, List.set_cons_succ])
                refine wpAnyH_take (i := 1) rfl (by kernel_rfl) (by kernel_rfl) (by kernel_rfl) (fun _ _ _ h => h) (Or.inl ⟨by rfl, (by intro u hSw; obtain ⟨s0, s1, s2, s3, s4, s5⟩ := hSw; go_simp; first | done | (with_reducible rfl))⟩) hHeld ?_
                (try simp only [List.getElem_toArray, List.getElem_cons_succ, List.getElem_cons_zero, Act.put, List.setIfInBounds_toArray, List.set_cons_zero, List.set_cons_succ])
                refine wpAnyH_take (i := 2) rfl (by kernel_rfl) (by kernel_rfl) (by kernel_rfl) (fun _ _ _ h => h) (Or.inl ⟨by rfl, (by intro u hSw; obtain ⟨s0, s1, s2, s3, s4, s5⟩ := hSw; go_simp; first | done | (with_reducible rfl))⟩) hHeld ?_
                (try simp only [List.getElem_toArray, List.getElem_cons_succ, List.getElem_cons_zero, Act.put, List.setIfInBounds_toArray, List.set_cons_zero, List.set_cons_succ])
                refine wpAnyH_take (i := 3) rfl (by kernel_rfl) (by kernel_rfl) (by kernel_rfl) (fun _ _ _ h => h) (Or.inl ⟨by rfl, (by intro u hSw; obtain ⟨s0, s1, s2, s3, s4, s5⟩ := hSw; go_simp; first | done | (with_reducible rfl))⟩) hHeld ?_
                (try simp only [List.getElem_toArray, List.getElem_cons_succ, List.getElem_cons_zero, Act.put, List.setIfInBounds_toArray, List.set_cons_zero, List.set_cons_succ])
                refine wpAnyH_take (i := 4) rfl (by kernel_rfl) (by kernel_rfl) (by kernel_rfl) (fun _ _ _ h => h) (Or.inl ⟨by rfl, (by intro u hSw; obtain ⟨s0, s1, s2, s3, s4, s5⟩ := hSw; go_simp; first | done | (with_reducible rfl))⟩) hHeld ?_
                (try simp only [List.getElem_toArray, List.getElem_cons_succ, List.getElem_cons_zero, Act.put, List.setIfInBounds_toArray, List.set_cons_zero, List.set_cons_succ])
                refine wpAnyH_take (i := 5) rfl (by kernel_rfl) (by kernel_rfl) (by kernel_rfl) (fun _ _ _ h => h) (yieldsIf_load_mid (by rfl) 23 (.tmp 190) (by rfl) gN 13 (by rfl) zs _ (fun u hu => hu.2.2.2.2.2) Try.underlying23 rfl HSI.out) hHeld ?_
                (try simp only [List.getElem_toArray, List.getElem_cons_succ, List.getElem_cons_zero, Act.put, List.setIfInBounds_toArray, List.set_cons_zero, List.set_cons_succ])
                refine wpAnyH_take (i := 6) rfl (by kernel_rfl) (by kernel_rfl) (by kernel_rfl) (fun _ _ _ h => h) (Or.inl ⟨by rfl, (by intro u hSw; obtain ⟨s0, s1, s2, s3, s4, s5⟩ := hSw; go_simp; first | done | (with_reducible rfl))⟩) hHeld ?_
                (try simp only [List.getElem_toArray, List.getElem_cons_succ, List.getElem_cons_zero, Act.put, List.setIfInBounds_toArray, List.set_cons_zero, List.set_cons_succ])
                refine wpAnyH_take (i := 7) rfl (by kernel_rfl) (by kernel_rfl) (by kernel_rfl) (fun _ _ _ h => h) (Or.inl ⟨by rfl, (by intro u hSw; obtain ⟨s0, s1, s2, s3, s4, s5⟩ := hSw; go_simp; first | done | (with_reducible rfl))⟩) hHeld ?_
                (try simp only [List.getElem_toArray, List.getElem_cons_succ, List.getElem_cons_zero, Act.put, List.setIfInBounds_toArray, List.set_cons_zero, List.set_cons_succ])
                refine wpAnyH_take (i := 8) rfl (by kernel_rfl) (by kernel_rfl) (by kernel_rfl) (fun _ _ _ h => h) (Or.inl ⟨by rfl, (by intro u hSw; obtain ⟨s0, s1, s2, s3, s4, s5⟩ := hSw; go_simp; first | done | (with_reducible rfl))⟩) hHeld ?_
                (try simp only [List.getElem_toArray, List.getElem_cons_succ, List.getElem_cons_zero, Act.put, List.setIfInBounds_toArray, List.set_cons_zero, List.set_cons_succ])
                refine wpAnyH_take (i := 9) rfl (by kernel_rfl) (by kernel_rfl) (by kernel_rfl) (fun _ _ _ h => h) (Or.inl ⟨by rfl, (by intro u hSw; obtain ⟨s0, s1, s2, s3, s4, s5⟩ := hSw; go_simp; first | done | (with_reducible rfl))⟩) hHeld ?_
                (try simp only [List.getElem_toArray, List.getElem_cons_succ, List.getElem_cons_zero, Act.put, List.setIfInBounds_toArray, List.set_cons_zero, List.set_cons_succ])
                refine wpAnyH_take (i := 10) rfl (by kernel_rfl) (by kernel_rfl) (by kernel_rfl) (fun _ _ _ h => h) (Or.inl ⟨by rfl, (by intro u hSw; obtain ⟨s0, s1, s2, s3, s4, s5⟩ := hSw; go_simp; first | done | (with_reducible rfl))⟩) hHeld ?_
                (try simp only [List.getElem_toArray, List.getElem_cons_succ, List.getElem_cons_zero, Act.put, List.setIfInBounds_toArray, List.set_cons_zero, List.set_cons_succ])
                refine wpAnyH_take (i := 11) rfl (by kernel_rfl) (by kernel_rfl) (by kernel_rfl) (fun _ _ _ h => h) (yieldsIf_build (by rfl) 69 _ rfl [(0, .int .i64 8), (1, .int .i64 x), (2, .int .i64 q), (3, .agg #[.int .i64 q, .int .i64 1, .int .i64 1]), (9, .agg zs.toArray), (8, .bool hxv)] (by simp [Act.eval, Act.put]) _ HBD.out) hHeld ?_
                (try simp only [List.getElem_toArray, List.getElem_cons_succ, List.getElem_cons_zero, Act.put, List.setIfInBounds_toArray, List.set_cons_zero, List.set_cons_succ])
                refine wpAnyH_ready (rs := [12]) (by kernel_rfl) (by simp) ?_
                refine AllReadyH.cons rfl (fun K hK => ?_) AllReadyH.nil
                go_simp
                have hb3 : Below V.heap.size V (V.alloc (.cells z.toArray 69)) := (Below.refl _ _).alloc (Nat.le_refl _) _
                have hal := heap_alloc_new V (.cells z.toArray 69)
                have HW3 := Hf.mk (HW2.out.below hb3)
                have hk : (V.alloc (.cells z.toArray 69)).cell? ⟨gN, 2, none⟩ = some (.int .i64 x) ∧ (V.alloc (.cells z.toArray 69)).cell? ⟨gC, 0, none⟩ = some (.int .i64 q) ∧ (V.alloc (.cells z.toArray 69)).cell? ⟨gC, 1, none⟩ = some (.int .i64 1) ∧ (V.alloc (.cells z.toArray 69)).cell? ⟨gC, 2, none⟩ = some (.int .i64 1) ∧ (V.alloc (.cells z.toArray 69)).cell? ⟨gH, x, none⟩ = some (.bool hxv) ∧ (V.alloc (.cells z.toArray 69)).rangeAt gN 13 zs := ⟨(hb3.cell (p := ⟨gN, 2, none⟩) HLT.out.1).trans hHeld.1, (hb3.cell (p := ⟨gC, 0, none⟩) HLT.out.2.1).trans hHeld.2.1, (hb3.cell (p := ⟨gC, 1, none⟩) HLT.out.2.1).trans hHeld.2.2.1, (hb3.cell (p := ⟨gC, 2, none⟩) HLT.out.2.1).trans hHeld.2.2.2.1, (hb3.cell (p := ⟨gH, x, none⟩) HLT.out.2.2).trans hHeld.2.2.2.2.1, fun j v hv => (hb3.cell (p := ⟨gN, 13 + j, none⟩) HLT.out.1).trans (hHeld.2.2.2.2.2 j v hv)⟩
                have HKS : Hf (∀ u : World, (∀ (j : Nat), j ≠ V.heap.size → u.heap[j]? = (V.alloc (.cells z.toArray 69)).heap[j]?) → u.cell? ⟨gN, 2, none⟩ = some (.int .i64 x) ∧ u.cell? ⟨gC, 0, none⟩ = some (.int .i64 q) ∧ u.cell? ⟨gC, 1, none⟩ = some (.int .i64 1) ∧ u.cell? ⟨gC, 2, none⟩ = some (.int .i64 1) ∧ u.cell? ⟨gH, x, none⟩ = some (.bool hxv) ∧ u.rangeAt gN 13 zs) := ⟨fun u hu => by
                  have k1 := hu gN (Nat.ne_of_lt HLT.out.1)
                  have k2 := hu gC (Nat.ne_of_lt HLT.out.2.1)
                  have k3 := hu gH (Nat.ne_of_lt HLT.out.2.2)
                  exact ⟨(World.cell?_of_block (a := ⟨gN, 2, none⟩) k1).trans hk.1, (World.cell?_of_block (a := ⟨gC, 0, none⟩) k2).trans hk.2.1, (World.cell?_of_block (a := ⟨gC, 1, none⟩) k2).trans hk.2.2.1, (World.cell?_of_block (a := ⟨gC, 2, none⟩) k2).trans hk.2.2.2.1, (World.cell?_of_block (a := ⟨gH, x, none⟩) k3).trans hk.2.2.2.2.1, fun j v hv => (World.cell?_of_block (a := ⟨gN, 13 + j, none⟩) k1).trans (hk.2.2.2.2.2 j v hv)⟩⟩
                have HAL := Hf.mk hal
                have HBV := Hf.mk hb3
                have HVS : Hf (w.heap.size ≤ V.heap.size) := ⟨HW2.out.bel.size⟩
                have HBW := Hf.mk HW2.out.bel
                clear hal hb3 hHeld
                refine hK.out _ _ hk (fun hHeld => ?_)
                clear hK K hk
                (try simp only [List.getElem_toArray, List.getElem_cons_succ, List.getElem_cons_zero, Act.put, List.setIfInBounds_toArray, List.set_cons_zero, List.set_cons_succ])
                refine wpAnyH_ready (rs := [13]) (by kernel_rfl) (by simp) ?_
                refine AllReadyH.cons rfl (fun K hK => ?_) AllReadyH.nil
                refine wp_store_row 69 (.tmp 24) (.tmp 197) rfl V.heap.size Y.toArray rfl rfl 69 z.toArray HAL.out (size69.trans (by rw [List.size_toArray, HYL.out])) (by rw [List.size_toArray, List.size_toArray, HZL.out, HYL.out]) (all_oneCell_toArray HY1.out) ?_
                have hst : ((V.alloc (.cells z.toArray 69)).setRow V.heap.size Y.toArray).heap[V.heap.size]? = some (.cells Y.toArray 69 (0, 0)) := setRow_heap _ _ z.toArray Y.toArray 69 (0, 0) HAL.out
                have hk := HKS.out ((V.alloc (.cells z.toArray 69)).setRow V.heap.size Y.toArray) (fun j hj => setRow_other _ _ j _ hj)
                have hb4 : Below V.heap.size V ((V.alloc (.cells z.toArray 69)).setRow V.heap.size Y.toArray) := Below.setRow' HBV.out (Nat.le_refl _) _
                obtain ⟨gY, hgY⟩ : ∃ y, V.heap.size = y := ⟨_, rfl⟩
                rw [hgY] at hst hb4 hk ⊢
                have HGY : Hf (w.heap.size ≤ gY) := ⟨by rw [← hgY]; exact HVS.out⟩
                have HB4 := Hf.mk hb4
                have HST := Hf.mk hst
                have HGV := Hf.mk hgY
                clear HW3 HAL HBV HKS hst hb4 hgY HBW HVS
                generalize (V.alloc (.cells z.toArray 69)).setRow gY Y.toArray = V2 at *
                refine hK.out _ _ hk (fun hHeld => ?_)
                clear hK K hk
                (try simp only [List.getElem_toArray, List.getElem_cons_succ, List.getElem_cons_zero, Act.put, List.setIfInBounds_toArray, List.set_cons_zero, List.set_cons_succ])
                refine wpAnyH_done (by kernel_rfl) ?_ _
                clear hHeld
                have hyg := fun i => nt_get (kind := 8) (me := (x : Int)) (who := (q : Int)) (cn := (q : Int)) (cb := 1) (cc := 1) (set := 0) (yes := hxv) (id := Sha.sum bl) (dv := .slice none 0 0) (Sha.sum_len bl) (i := i)
                rw [HYE.out] at hyg
                have y12 := (NtF.range HST.out 12).trans ((hyg 12).1 (by decide))
                have y12 : V2.cell? ⟨gY, 12, none⟩ = some (.bool hxv) := y12
                cases hxv with
                | true =>
                  have y45 := (NtF.range HST.out 45).trans ((hyg 0).2.2 (by decide))
                  have g45 := Go.Joins.unfrozen_of_block HST.out 45
                  have hst3 := Go.Joins.block_setCell (i := 45) HST.out (.slice bA bl.length bc)
                  rw [← HYE.out, nt_set45 _ _ _ _ _ _ _ _ _ _ (Sha.sum_len _)] at hst3
                  have hb5 := HB4.out.setCell (p := ⟨gY, 45, none⟩) (Nat.le_refl _) (.slice bA bl.length bc)
                  clear hyg
                  go_upto_region 33 with fail
                  clear y45 g45
                  generalize V2.setCell ⟨gY, 45, none⟩ (.slice bA bl.length bc) = V3 at *
                  rw [← HGV.out] at hb5
                  have HW3 := Hf.mk (HW2.out.below hb5)
                  have HSTF := Hf.mk hst3
                  have hans := HW3.out.ans (b := bl) HF.out HOK.out rfl (by omega) HOX.out hkm bl (fun _ => rfl) (by omega)
                  rw [HHX.out] at hans
                  obtain ⟨m', hs', e1, e2, e5, eW⟩ := hans
                  have HTK : Hf (Calls Try.prog 41 #[.pointer (some ⟨p, 0, none⟩), .agg (nt 8 x q q 1 1 0 true (Sha.sum bl) (.slice bA bl.length bc)).toArray] V3 (SendsAt V3 p (R.takeR (R.mineB 8 x q q 1 1 (Sha.sum bl)) x true bl) a1 c1 a2 c2 (R.takeR (R.mineB 8 x q q 1 1 (Sha.sum bl)) x true bl) (R.takeO (R.mineB 8 x q q 1 1 (Sha.sum bl)) x true bl))) := ⟨by
                    obtain ⟨a3, c3, hr3⟩ := HW3.out.rat
                    exact take_any hr3 HW3.out.ok (noteV_nt 8 x q q 1 1 true (Sha.sum_len bl) (Sha.sum_lt _) (HBG.out.below HW3.out.bel)) (by omega)⟩
                  have HYF := Hf.mk (nt_len 8 x q q 1 1 0 true (Sha.sum_len bl) (.slice bA bl.length bc))
                  generalize R.takeR (R.mineB 8 x q q 1 1 (Sha.sum bl)) x true bl = R' at *
                  generalize R.takeO (R.mineB 8 x q q 1 1 (Sha.sum bl)) x true bl = T at *
                  generalize nt 8 (x : Int) (q : Int) (q : Int) 1 1 0 true (Sha.sum bl) (.slice bA bl.length bc) = F at *
                  have HE1 := Hf.mk e1
                  have HE5 := Hf.mk e5
                  have HEW := Hf.mk eW
                  have hTl : m + hs.length + T.length ≤ 128 := by
                    have h1 := congrArg List.length e1
                    rw [List.length_append, List.length_append, List.length_append, gets1_len HF.out.mn, gets1_len e5.mn] at h1
                    have h2 := e5.mn
                    have h3 := e5.few
                    have h4 := HML.out
                    omega
                  have HTL : Hf ((gets1 (findR (Sha.sum bl) q n c) m ++ hs).length + T.length ≤ 100000) := ⟨by rw [List.length_append, gets1_len HF.out.mn]; omega⟩
                  have hasl : askedN (findR (Sha.sum bl) q n c) (min (k + 1) m') = askedN (findR (Sha.sum bl) q n c) k ++ [x] := by
                    rw [show min (k + 1) m' = k + 1 by omega, askedN_succ (by have := HF.out.mn; omega), HOX.out]; rfl
                  have HAS := Hf.mk hasl
                  have hk1 : k + 1 ≤ m' := by omega
                  have hk2 : (k : Int) + 1 ≤ 64 := by omega
                  clear hst3 hb5 e1 e5 eW hasl hTl HST HB4 HYE HYL HY1 HBD HSI HW2 HHX HGV
                  go_wp2_with (first
                    | (refine wpList_load_row rfl 69 (.tmp 24) rfl gY rfl 69 F.toArray (0, 0) _ HSTF.out Try.underlying69 rfl (size69.trans (by rw [List.size_toArray, HYF.out])) ?_)
                    | (go_at_call 41; (with_reducible refine HTK.out.mono ?_); rintro e w5' ⟨v5, rfl, hn5, hr5, hg5⟩; have HN5 := Hf.mk hn5; have HW5 := Hf.mk (HEW.out _ hr5 hg5); clear hn5 hr5 hg5)
                    | (at_builtin; refine wpList_append_notes rfl (.tmp 202) (.tmp 205) rfl base V3.heap.size _ _ R' (gets1 (findR (Sha.sum bl) q n c) m ++ hs) T rfl rfl HW5.out.nts HN5.out HW3.out.bl HTL.out HW5.out.bl ?_; intro v6 w6 hn6 hg6 _; have hw6 := HW5.out.put hn6 hg6; rw [HE1.out] at hw6; obtain ⟨A6, c6, rfl⟩ := hw6.len HE5.out; have HW6 := Hf.mk hw6; clear hn6 hg6 hw6))
                  go_roundw
                  case rel => exact ⟨k + 1, m', R', hs', A6, c6, by omega, rfl, by go_num, HE5, ⟨by rw [HAS.out]; exact HW6.out⟩⟩
                  case measure => simp [intOf]; omega
                | false =>
                  have hst3 := HST.out
                  rw [← HYE.out] at hst3
                  have hb5 := HB4.out
                  clear hyg
                  go_upto_region 33 with fail
                  generalize V2 = V3 at *
                  rw [← HGV.out] at hb5
                  have HW3 := Hf.mk (HW2.out.below hb5)
                  have HSTF := Hf.mk hst3
                  have hans := HW3.out.ans (b := bl) HF.out HOK.out rfl (by omega) HOX.out hkm [] (fun h => by rw [HHX.out] at h; cases h) (by simp)
                  rw [HHX.out] at hans
                  obtain ⟨m', hs', e1, e2, e5, eW⟩ := hans
                  have HTK : Hf (Calls Try.prog 41 #[.pointer (some ⟨p, 0, none⟩), .agg (nt 8 x q q 1 1 0 false (Sha.sum bl) (.slice none 0 0)).toArray] V3 (SendsAt V3 p (R.takeR (R.mineB 8 x q q 1 1 (Sha.sum bl)) x false []) a1 c1 a2 c2 (R.takeR (R.mineB 8 x q q 1 1 (Sha.sum bl)) x false []) (R.takeO (R.mineB 8 x q q 1 1 (Sha.sum bl)) x false []))) := ⟨by
                    obtain ⟨a3, c3, hr3⟩ := HW3.out.rat
                    exact take_any hr3 HW3.out.ok (noteV_nt 8 x q q 1 1 false (Sha.sum_len bl) (Sha.sum_lt _) (given_nil V3)) (by simp)⟩
                  have HYF := Hf.mk (nt_len 8 x q q 1 1 0 false (Sha.sum_len bl) (.slice none 0 0))
                  generalize R.takeR (R.mineB 8 x q q 1 1 (Sha.sum bl)) x false [] = R' at *
                  generalize R.takeO (R.mineB 8 x q q 1 1 (Sha.sum bl)) x false [] = T at *
                  generalize nt 8 (x : Int) (q : Int) (q : Int) 1 1 0 false (Sha.sum bl) (.slice none 0 0) = F at *
                  have HE1 := Hf.mk e1
                  have HE5 := Hf.mk e5
                  have HEW := Hf.mk eW
                  have hTl : m + hs.length + T.length ≤ 128 := by
                    have h1 := congrArg List.length e1
                    rw [List.length_append, List.length_append, List.length_append, gets1_len HF.out.mn, gets1_len e5.mn] at h1
                    have h2 := e5.mn
                    have h3 := e5.few
                    have h4 := HML.out
                    omega
                  have HTL : Hf ((gets1 (findR (Sha.sum bl) q n c) m ++ hs).length + T.length ≤ 100000) := ⟨by rw [List.length_append, gets1_len HF.out.mn]; omega⟩
                  have hasl : askedN (findR (Sha.sum bl) q n c) (min (k + 1) m') = askedN (findR (Sha.sum bl) q n c) k ++ [x] := by
                    rw [show min (k + 1) m' = k + 1 by omega, askedN_succ (by have := HF.out.mn; omega), HOX.out]; rfl
                  have HAS := Hf.mk hasl
                  have hk1 : k + 1 ≤ m' := by omega
                  have hk2 : (k : Int) + 1 ≤ 64 := by omega
                  clear hst3 hb5 e1 e5 eW hasl hTl HST HB4 HYE HYL HY1 HBD HSI HW2 HHX HGV
                  go_wp2_with (first
                    | (refine wpList_load_row rfl 69 (.tmp 24) rfl gY rfl 69 F.toArray (0, 0) _ HSTF.out Try.underlying69 rfl (size69.trans (by rw [List.size_toArray, HYF.out])) ?_)
                    | (go_at_call 41; (with_reducible refine HTK.out.mono ?_); rintro e w5' ⟨v5, rfl, hn5, hr5, hg5⟩; have HN5 := Hf.mk hn5; have HW5 := Hf.mk (HEW.out _ hr5 hg5); clear hn5 hr5 hg5)
                    | (at_builtin; refine wpList_append_notes rfl (.tmp 202) (.tmp 205) rfl base V3.heap.size _ _ R' (gets1 (findR (Sha.sum bl) q n c) m ++ hs) T rfl rfl HW5.out.nts HN5.out HW3.out.bl HTL.out HW5.out.bl ?_; intro v6 w6 hn6 hg6 _; have hw6 := HW5.out.put hn6 hg6; rw [HE1.out] at hw6; obtain ⟨A6, c6, rfl⟩ := hw6.len HE5.out; have HW6 := Hf.mk hw6; clear hn6 hg6 hw6))
                  go_roundw
                  case rel => exact ⟨k + 1, m', R', hs', A6, c6, by omega, rfl, by go_num, HE5, ⟨by rw [HAS.out]; exact HW6.out⟩⟩
                  case measure => simp [intOf]; omega
              · obtain ⟨g, c9, x, A', c', ev, hr, hgv, x1, x2, hask, hnot⟩ := HW.out.hnt HF.out (Sha.sum_len _) (by omega) hgo
                have HGV := Hf.mk hgv
                have HASK := Hf.mk hask
                have HNOT := Hf.mk hnot
                have hN1 := nt_one 16 q (x : Nat) q 1 1 3 false (Sha.sum bl) A' bl.length c'
                clear hgv hask hnot
                cases ev
                have hN0 := nt_len 16 q (x : Nat) q 1 1 3 false (Sha.sum_len bl) (.slice A' bl.length c')
                obtain ⟨N, hN⟩ : ∃ N, nt 16 (q : Int) (x : Nat) q 1 1 3 false (Sha.sum bl) (.slice A' bl.length c') = N := ⟨_, rfl⟩
                rw [hN] at hr hN0 hN1
                have HRN := Hf.mk hr
                have HNL := Hf.mk hN0
                have HN1 := Hf.mk hN1
                have HNE := Hf.mk hN
                have HZN : Hf ((Try.prog.info? 69).map (·.size) = some N.length) := ⟨by rw [hN0]; exact size69⟩
                have hz := zeroV69
                have hzl := nt_len 0 0 0 0 0 0 0 false (List.length_replicate (n := 32) (a := 0)) (.slice none 0 0)
                generalize nt 0 0 0 0 0 0 0 false (List.replicate 32 0) (.slice none 0 0) = z at hz hzl
                have HZL := Hf.mk hzl
                clear hr hN0 hN1 hN hzl
                have hgl := HW.out.bl
                go_upto_region 24 with (first
                  | (refine wpList_load_midW (by rfl) 69 (.tmp 111) (by rfl) g (k * 48) (by first | rfl | (simp; done)) N _ HRN.out Try.underlying69 rfl HZN.out ?_)
                  | (refine wpList_store_row rfl 69 (.tmp 23) (.tmp 112) rfl wr.heap.size N.toArray rfl rfl 69 z.toArray (heap_alloc_new _ _) (size69.trans (by rw [List.size_toArray, HNL.out])) (by rw [List.size_toArray, List.size_toArray, HZL.out, HNL.out]) (all_oneCell_toArray HN1.out) ?_))
                generalize hw1 : World.setRow _ _ _ = W1
                dsimp only [Act.put]
                have hNB : W1.heap[wr.heap.size]? = some (.cells N.toArray 69 (0, 0)) := by rw [← hw1]; exact setRow_heap _ _ z.toArray N.toArray 69 (0, 0) (heap_alloc_new _ _)
                have hb1 : Below wr.heap.size wr W1 := by rw [← hw1]; exact Below.setRow' ((Below.refl _ _).alloc (Nat.le_refl _) _) (Nat.le_refl _) _
                obtain ⟨gN, hgN⟩ : ∃ z, wr.heap.size = z := ⟨_, rfl⟩
                have HW1 := Hf.mk (HW.out.below hb1)
                have HBW1 := Hf.mk hb1
                rw [hgN] at hNB ⊢
                have HNB := Hf.mk hNB
                have HGN : Hf (w.heap.size ≤ gN ∧ gN < W1.heap.size) := ⟨by rw [← hgN]; exact HW.out.bel.size, (Array.getElem?_eq_some_iff.1 hNB).1⟩
                have cN : ∀ j, W1.cell? ⟨gN, j, none⟩ = N[j]? := fun j => NtF.range hNB j
                clear hw1 hNB hb1 hgN HRN HZN HW
                have hng := fun i => nt_get (kind := 16) (me := (q : Int)) (who := (x : Int)) (cn := (q : Int)) (cb := 1) (cc := 1) (set := 3) (yes := false) (id := Sha.sum bl) (dv := .slice A' bl.length c') (Sha.sum_len bl) (i := i)
                rw [HNE.out] at hng
                have n0 := (cN 0).trans ((hng 0).1 (by decide))
                have HN2 : Hf (∀ u, Below W1.heap.size W1 u → u.cell? ⟨gN, 2, none⟩ = some (.int .i64 x)) := ⟨fun u hu => (hu.cell (p := ⟨gN, 2, none⟩) HGN.out.2).trans ((cN 2).trans ((hng 2).1 (by decide)))⟩
                have HN45 : Hf (∀ u, Below W1.heap.size W1 u → u.cell? ⟨gN, 45, none⟩ = some (.slice A' bl.length c')) := ⟨fun u hu => (hu.cell (p := ⟨gN, 45, none⟩) HGN.out.2).trans ((cN 45).trans ((hng 0).2.2 (by decide)))⟩
                have HN13 : Hf (∀ u, Below W1.heap.size W1 u → u.rangeAt gN 13 (cellsOf (Sha.sum bl))) := ⟨fun u hu j v hv => by
                  have hj : j < 32 := by have := (List.getElem?_eq_some_iff.1 hv).1; rwa [cellsOf_length, Sha.sum_len] at this
                  exact (hu.cell (p := ⟨gN, 13 + j, none⟩) HGN.out.2).trans ((cN (13 + j)).trans (((hng j).2.1 hj).trans hv))⟩
                have hmin : min k m = m := by omega
                have HSE : Hf (∀ u, Below W1.heap.size W1 u → u.cell? ⟨gS, x, none⟩ = some (.bool true)) := ⟨fun u hu => by
                  rw [Go.Joins.cell_of_block (keptB HW1.out.see hu) x, seenC_get _ _ _ (by omega), hmin, decide_eq_true HASK.out]⟩
                have HHA : Hf (∀ u, Below W1.heap.size W1 u → u.cell? ⟨gH, x, none⟩ = some (.bool false)) := ⟨fun u hu => by
                  rw [Go.Joins.cell_of_block (keptB HW1.out.hav hu) x, seenC_get _ _ _ (by omega), decide_eq_false HNOT.out]⟩
                have HSB : Hf (∀ u, Below W1.heap.size W1 u → Calls Try.prog 40 #[.slice A' bl.length c', .slice bA bl.length bc] u fun e w' => e = .returned (.bool true) ∧ Below W1.heap.size W1 w') := ⟨fun u hu => (same_self ((HGV.out.below HBW1.out).below hu) (HBG.out.below (below_step HW1.out.bel hu))).mono fun e w' hh => ⟨hh.1, by rw [hh.2]; exact hu⟩⟩
                have HS2 : Hf (∀ u, Below W1.heap.size W1 u → Calls Try.prog 38 #[.slice bA bl.length bc] u fun e w' => e = .returned (.agg (cellsOf (Sha.sum bl)).toArray) ∧ Below W1.heap.size W1 w') := ⟨fun u hu => (HSM.out u (below_step HW1.out.bel hu)).mono fun e w' hh => ⟨hh.1, below_step hu hh.2⟩⟩
                have hnq := fun u => run_neq_ids (Sha.sum bl) (Sha.sum bl) u (Sha.sum_len _) (Sha.sum_len _) (Sha.sum_lt _) (Sha.sum_lt _)
                rw [decide_eq_true (rfl : Sha.sum bl = Sha.sum bl)] at hnq
                have HSI : Hf ((Try.prog.info? 23).map (·.size) = some (cellsOf (Sha.sum bl)).length) := ⟨by rw [cellsOf_length, Sha.sum_len]; exact size23⟩
                have HE40 : Hf (∀ args u, (callFunc 40 args).run Try.prog u = .ok (.enter 40 args) u) := ⟨enters_of Try.func40 (by kernel_rfl) rfl⟩
                have HE38 : Hf (∀ args u, (callFunc 38 args).run Try.prog u = .ok (.enter 38 args) u) := ⟨enters_of Try.func38 (by kernel_rfl) rfl⟩
                have i3 : (x : Int) < (n : Int) + 1 := by omega
                have i4 : (0 : Int) ≤ (x : Int) := by omega
                obtain ⟨cs, hcs⟩ : ∃ y, cellsOf (Sha.sum bl) = y := ⟨_, rfl⟩
                rw [hcs] at HN13 HS2 hnq HSI
                clear hcs hng cN
                go_upto_region 25 with fail
                refine wp_region_quiet (C := fun W' => Below W1.heap.size W1 W') (by kernel_rfl) (by kernel_rfl) (Below.refl _ _).drew ?_
                simp only [List.toList_toArray]
                (first | go_big_quiet_skip | (go_big_quiet_want; go_big_quiet_op; first | go_big_quiet_on | (refine ⟨_, fun _ _ => rfl, ?_⟩; go_big_quiet_on)))
                (first | go_big_quiet_skip | (go_big_quiet_want; go_big_quiet_op; first | go_big_quiet_on | (refine ⟨_, fun _ _ => rfl, ?_⟩; go_big_quiet_on)))
                refine qstep_load1 (by rfl) 3 (.tmp 117) (by rfl) gN 2 (by rfl) (.int .i64 x) (fun u hu => run_load_cell 3 Try.isAgg3 u gN 2 _ (HN2.out u hu)) ?_
                simp only [Act.put, List.setIfInBounds_toArray, List.set_cons_zero, List.set_cons_succ]; (first | go_big_quiet_skip | (go_big_quiet_want; go_big_quiet_op; first | go_big_quiet_on | (refine ⟨_, fun _ _ => rfl, ?_⟩; go_big_quiet_on)))
                refine qstep_load1 (by rfl) 4 (.tmp 119) (by rfl) gS x (by rfl) (.bool true) (fun u hu => run_load_cell 4 Try.isAgg4 u gS x _ (HSE.out u hu)) ?_
                simp only [Act.put, List.setIfInBounds_toArray, List.set_cons_zero, List.set_cons_succ]; (first | go_big_quiet_skip | (go_big_quiet_want; go_big_quiet_op; first | go_big_quiet_on | (refine ⟨_, fun _ _ => rfl, ?_⟩; go_big_quiet_on)))
                (first | go_big_quiet_skip | (go_big_quiet_want; go_big_quiet_op; first | go_big_quiet_on | (refine ⟨_, fun _ _ => rfl, ?_⟩; go_big_quiet_on)))
                (first | go_big_quiet_skip | (go_big_quiet_want; go_big_quiet_op; first | go_big_quiet_on | (refine ⟨_, fun _ _ => rfl, ?_⟩; go_big_quiet_on)))
                (first | go_big_quiet_skip | (go_big_quiet_want; go_big_quiet_op; first | go_big_quiet_on | (refine ⟨_, fun _ _ => rfl, ?_⟩; go_big_quiet_on)))
                refine qstep_load1 (by rfl) 3 (.tmp 124) (by rfl) gN 2 (by rfl) (.int .i64 x) (fun u hu => run_load_cell 3 Try.isAgg3 u gN 2 _ (HN2.out u hu)) ?_
                simp only [Act.put, List.setIfInBounds_toArray, List.set_cons_zero, List.set_cons_succ]; (first | go_big_quiet_skip | (go_big_quiet_want; go_big_quiet_op; first | go_big_quiet_on | (refine ⟨_, fun _ _ => rfl, ?_⟩; go_big_quiet_on)))
                refine qstep_load1 (by rfl) 4 (.tmp 126) (by rfl) gH x (by rfl) (.bool false) (fun u hu => run_load_cell 4 Try.isAgg4 u gH x _ (HHA.out u hu)) ?_
                simp only [Act.put, List.setIfInBounds_toArray, List.set_cons_zero, List.set_cons_succ]; (first | go_big_quiet_skip | (go_big_quiet_want; go_big_quiet_op; first | go_big_quiet_on | (refine ⟨_, fun _ _ => rfl, ?_⟩; go_big_quiet_on)))
                (first | go_big_quiet_skip | (go_big_quiet_want; go_big_quiet_op; first | go_big_quiet_on | (refine ⟨_, fun _ _ => rfl, ?_⟩; go_big_quiet_on)))
                (first | go_big_quiet_skip | (go_big_quiet_want; go_big_quiet_op; first | go_big_quiet_on | (refine ⟨_, fun _ _ => rfl, ?_⟩; go_big_quiet_on)))
                refine qstep_load1 (by rfl) 54 (.tmp 130) (by rfl) gN 45 (by rfl) (.slice A' bl.length c') (fun u hu => run_load_cell 54 Try.isAgg54 u gN 45 _ (HN45.out u hu)) ?_
                simp only [Act.put, List.setIfInBounds_toArray, List.set_cons_zero, List.set_cons_succ]; (first | go_big_quiet_skip | (go_big_quiet_want; go_big_quiet_op; first | go_big_quiet_on | (refine ⟨_, fun _ _ => rfl, ?_⟩; go_big_quiet_on)))
                refine qstep_call (by rfl) 40 #[.tmp 131, .tmp 132] #[54, 54] rfl #[.slice A' bl.length c', .slice bA bl.length bc] (by simp [Act.eval, Act.put]) (.bool true) HE40.out HSB.out ?_
                simp only [Act.put, List.setIfInBounds_toArray, List.set_cons_zero, List.set_cons_succ]; (first | go_big_quiet_skip | (go_big_quiet_want; go_big_quiet_op; first | go_big_quiet_on | (refine ⟨_, fun _ _ => rfl, ?_⟩; go_big_quiet_on)))
                (first | go_big_quiet_skip | (go_big_quiet_want; go_big_quiet_op; first | go_big_quiet_on | (refine ⟨_, fun _ _ => rfl, ?_⟩; go_big_quiet_on)))
                (first | go_big_quiet_skip | (go_big_quiet_want; go_big_quiet_op; first | go_big_quiet_on | (refine ⟨_, fun _ _ => rfl, ?_⟩; go_big_quiet_on)))
                (first | go_big_quiet_skip | (go_big_quiet_want; go_big_quiet_op; first | go_big_quiet_on | (refine ⟨_, fun _ _ => rfl, ?_⟩; go_big_quiet_on)))
                refine qstep_loadm (by rfl) 23 (.tmp 137) (by rfl) gN 13 (by rfl) cs _ HN13.out Try.underlying23 rfl HSI.out ?_
                simp only [Act.put, List.setIfInBounds_toArray, List.set_cons_zero, List.set_cons_succ]; (first | go_big_quiet_skip | (go_big_quiet_want; go_big_quiet_op; first | go_big_quiet_on | (refine ⟨_, fun _ _ => rfl, ?_⟩; go_big_quiet_on)))
                refine qstep_call (by rfl) 38 #[.tmp 139] #[54] rfl #[.slice bA bl.length bc] (by simp [Act.eval, Act.put]) (.agg cs.toArray) HE38.out HS2.out ?_
                simp only [Act.put, List.setIfInBounds_toArray, List.set_cons_zero, List.set_cons_succ]; (first | go_big_quiet_skip | (go_big_quiet_want; go_big_quiet_op; first | go_big_quiet_on | (refine ⟨_, fun _ _ => rfl, ?_⟩; go_big_quiet_on)))
                (first | go_big_quiet_skip | (go_big_quiet_want; go_big_quiet_op; first | go_big_quiet_on | (refine ⟨_, fun _ _ => rfl, ?_⟩; go_big_quiet_on)))
                refine wpQuiet_nil ?_
                intro w2 hb2
                have HB2 := Hf.mk hb2
                have HFH := Hf.mk (find_hint HF.out (show m ≤ k by omega)).1
                have hmin2 : min (k + 1) m = min k m := by omega
                have HM2 := Hf.mk hmin2
                clear hb2 hmin hmin2
                go_wp2
                go_roundw
                case rel => exact ⟨k + 1, m, R, hs, some ⟨g, 0, none⟩, cc, by omega, rfl, by go_num, HFH, ⟨by rw [HM2.out]; exact HW1.out.below HB2.out⟩⟩
                case measure => simp [intOf]; omega
            · obtain rfl : k = m + hs.length := by omega
              clear hgo hk
              obtain ⟨a3, c3, hr⟩ := HW.out.rat
              have HR := Hf.mk hr
              have hme : 1 ≤ R.me := HW.out.ok.me1
              rcases find_end HF.out (by omega) with ⟨hs2, hdat, herr, hex⟩ | ⟨hs3, herr, hno⟩
              · have hany := any_yes HPA.out hex
                rw [hany]
                have HD := Hf.mk (rdone_any hr hme (by rw [hdat]; omega) (by omega))
                have e1 : R.doneB = bl := by unfold Rdr.doneB; rw [if_pos hs2, hdat]
                have e2 : (R.st == 2) = true := beq_iff_eq.2 hs2
                rw [e1, e2] at HD
                clear hr hs2 hdat herr hex hany e1 e2 hme
                go_wp2_with (first
                  | (go_at_call 42; (with_reducible refine HD.out.mono ?_); rintro e w10 ⟨A', c', rfl, hg, hb⟩; have HG := Hf.mk hg; have HB := Hf.mk (below_step HW.out.bel hb); have HQ := Hf.mk (same_self hg (HBG.out.below (below_step HW.out.bel hb))); clear hg hb)
                  | (go_at_call 40; (with_reducible refine HQ.out.mono ?_); rintro e w11 ⟨rfl, hw⟩; have hw := hw.symm; subst hw))
                go_ret
                exact ⟨rfl, HB.out⟩
              · have hany := any_no HPA.out hno
                rw [hany]
                have HD := Hf.mk (rdone_any hr hme (by have := HW.out.ok.dat; omega) (by omega))
                have e1 : R.doneB = [] := by unfold Rdr.doneB; rw [if_neg (by omega)]
                have e2 : (R.st == 2) = false := beq_eq_false_iff_ne.2 (by omega)
                rw [e1, e2] at HD
                have HFE := Hf.mk (fun u hu => rfailed_any (HR.out.below (w' := u) hu) hme)
                rw [herr] at HFE
                clear hr hs3 herr hno hany e1 e2 hme
                go_wp2_with (first
                  | (go_at_call 42; (with_reducible refine HD.out.mono ?_); rintro e w10 ⟨A', c', rfl, hg, hb⟩; have HB := Hf.mk (below_step HW.out.bel hb); have HQ := Hf.mk (HFE.out w10 hb); clear hg hb)
                  | (go_at_call 43; (with_reducible refine HQ.out.mono ?_); rintro e w11 ⟨rfl, hw⟩; have hw := hw.symm; subst hw))
                go_ret
                exact ⟨rfl, HB.out⟩
    · have hbl1 : (300 : Int) < (bl.length : Int) := by omega
      go_wp2
      go_ret
      exact ⟨rfl, HB5.out⟩
  · have hwl1 : (70 : Int) < (l.length : Int) := by omega
    go_wp2
    go_ret
    exact ⟨rfl, HB5.out⟩
theorem readsFinds_walk (nodes copies me : Int) (a3 : Option Addr) (len3 cap3 : Nat) (z3 : List Int) (a4 : Option Addr) (len4 cap4 : Nat) (z4 : List Int) (W : World) (_h0 : (Lit.int .i64 nodes).wf = true) (_h1 : (Lit.int .i64 copies).wf = true) (_h2 : (Lit.int .i64 me).wf = true) (w3 : IsRow .i64 W a3 len3 cap3 z3) (w4 : IsRow .u8 W a4 len4 cap4 z4) :
    Calls Try.prog 10 #[.int .i64 nodes, .int .i64 copies, .int .i64 me, .slice a3 len3 cap3, .slice a4 len4 cap4] W fun e w' => e = .returned (.bool true) ∧ Below W.heap.size W w' := by
  obtain ⟨l, rfl, hl, hll⟩ := isRow_I w3
  obtain ⟨b, rfl, hb⟩ := isRow_B w4
  exact finds_any nodes copies me l a3 cap3 b a4 cap4 W hl hll hb
end Go.Proofs.Ytaaepadhapfkoaa
