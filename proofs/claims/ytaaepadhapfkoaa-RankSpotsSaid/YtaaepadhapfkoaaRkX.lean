/-
  Rank: RankSpots' walk.
-/
import Derived.Test.YtaaepadhapfkoaaRkV
namespace Go.Proofs.Ytaaepadhapfkoaa
set_option linter.unusedSimpArgs false
set_option linter.unusedVariables false
open Go.RowKit

theorem placed (id : List Nat) (n c : Nat) (live : List Int) (A : Option Addr) (lc : Nat) (hl : id.length = 32) (hb : ∀ c ∈ id, c < 256) (hn : 1 ≤ n) (hn2 : n ≤ 64) (hc : 1 ≤ c) (hc2 : c ≤ n) (hll : live.length ≤ 9223372036854775807) (u : World) (h : RdI u A live) :
    Calls Try.prog 26 #[.agg (cellsOf id).toArray, .int .i64 n, .int .i64 c, .slice A live.length lc] u fun e w' => ∃ A' c', e = .returned (.tuple #[.slice A' (placeS id n c live).length c', .int .i64 0]) ∧ RdS w' A' (placeS id n c live) ∧ Below u.heap.size u w' := by
  refine (place_any id n c live A lc u hl hb hn hn2 hc hc2 h hll).mono fun e w' h2 => ?_
  obtain ⟨v, he, ho, hb⟩ := h2
  obtain ⟨A', c', rfl, hr, _⟩ := rdS_own rfl ho
  exact ⟨A', c', he, hr, hb⟩
theorem spot_get {l : List (Int × Int)} {k : Nat} (h : k < l.length) : l.getD k (0, 0) ∈ l := by
  rw [List.getD_eq_getElem?_getD, List.getElem?_eq_getElem h]
  exact List.getElem_mem h
theorem spot_apart {id : List Nat} {n c : Nat} {live : List Int} {j k : Nat} (hj : j < k) (hk : k < (placeS id n c live).length) : ((placeS id n c live).getD j (0, 0)).1 ≠ ((placeS id n c live).getD k (0, 0)).1 ∧ ((placeS id n c live).getD j (0, 0)).2 ≠ ((placeS id n c live).getD k (0, 0)).2 := by
  have h := List.pairwise_iff_getElem.1 (placeS_apart id n c live) j k (by omega) hk hj
  rw [List.getD_eq_getElem?_getD, List.getElem?_eq_getElem (show j < (placeS id n c live).length by omega), List.getD_eq_getElem?_getD, List.getElem?_eq_getElem hk]
  exact h
set_option maxHeartbeats 2000000 in
set_option maxRecDepth 100000 in
theorem spots17 (id : List Nat) (nodes copies : Int) (live : List Int) (A : Option Addr) (lc : Nat) (w : World) (hl : id.length = 32) (hb : ∀ c ∈ id, c < 256) (hr : RdI w A live) (hll : live.length ≤ 9223372036854775807) :
    Calls Try.prog 8 #[.agg (cellsOf id).toArray, .int .i64 nodes, .int .i64 copies, .slice A live.length lc] w fun e w' => e = .returned (.bool true) ∧ Below w.heap.size w w' := by
  obtain ⟨m, hm⟩ : ∃ m : Nat, nodes % 64 = m := ⟨(nodes % 64).toNat, by have := Int.emod_nonneg nodes (show (64 : Int) ≠ 0 by decide); omega⟩
  have hm2 : m < 64 := by have := Int.emod_lt_of_pos nodes (show (0 : Int) < 64 by decide); omega
  have HPK1 := Hf.mk (fun u => Pick_any nodes 64 u (by decide) (by decide))
  rw [hm] at HPK1
  obtain ⟨n, hn⟩ : ∃ n, m + 1 = n := ⟨_, rfl⟩
  have hn1 : 1 ≤ n := by omega
  have hn64 : n ≤ 64 := by omega
  obtain ⟨p, hp⟩ : ∃ p : Nat, copies % (n : Int) = p := ⟨(copies % (n : Int)).toNat, by have := Int.emod_nonneg copies (show (n : Int) ≠ 0 by omega); omega⟩
  have hp2 : p < n := by have := Int.emod_lt_of_pos copies (show (0 : Int) < n by omega); omega
  have HPK2 := Hf.mk (fun u => Pick_any copies n u (by omega) (by omega))
  rw [hp] at HPK2
  obtain ⟨c, hc⟩ : ∃ c, p + 1 = c := ⟨_, rfl⟩
  have hc1 : 1 ≤ c := by omega
  have hcn : c ≤ n := by omega
  have e1 : (1 : Int) + (m : Int) = (n : Int) := by omega
  have e2 : (1 : Int) + (p : Int) = (c : Int) := by omega
  clear hm hn hp hc hp2 hm2
  have HK := Hf.mk awake17
  have HPL := Hf.mk (placed id n c live A lc hl hb hn1 hn64 hc1 hcn hll)
  have HHM := Hf.mk (fun (x : Int) u => home_fine id n c x u hl hb hn1 hn64 hc1 hcn)
  have HLEN := Hf.mk (placeS_len id n c live hcn)
  have HMEM := Hf.mk (fun k (h : k < (placeS id n c live).length) => placeS_mem (spot_get h))
  have HAP := Hf.mk (fun j k (hj : j < k) (h : k < (placeS id n c live).length) => spot_apart (id := id) (n := n) (c := c) (live := live) hj h)
  have hz : (cellsOf id).toArray.size = 32 := by rw [List.size_toArray, cellsOf_length, hl]
  have h1 := heap_alloc_new w (.cells (cellsOf id).toArray 23)
  have hb0 : Below w.heap.size w (w.alloc (.cells (cellsOf id).toArray 23)) := (Below.refl _ _).alloc (Nat.le_refl _) _
  have HRL := Hf.mk (hr.below hb0)
  clear hl hb hr
  generalize (cellsOf id).toArray = za at *
  generalize placeS id n c live = S at *
  generalize (ordI id n).take c = hs at *
  have H0 := Hf.mk h1
  have HZ := Hf.mk hz
  have HB0 := Hf.mk hb0
  clear h1 hz hb0
  go_enter Try.func8, Try.ntmps8
  go_upto_region 1 with fail
  generalize w.alloc (.cells za 23) = W at *
  go_upto_region 3 with (first
    | (go_at_call 22; (with_reducible refine (HK.out _).mono ?_); rintro e w1 ⟨rfl, hb1⟩; have HB1 := Hf.mk hb1; have H1 := Hf.mk (kept_heap H0.out hb1); have HRL1 := Hf.mk (HRL.out.below hb1); clear hb1)
    | (go_at_call 33; (with_reducible refine (HPK1.out _).mono ?_); rintro e w' ⟨rfl, hw'⟩; subst hw'))
  go_upto_region 4 with (go_at_call 33; (with_reducible refine (HPK2.out _).mono ?_); rintro e w' ⟨rfl, hw'⟩; subst hw')
  clear e1 e2 HPK1 HPK2 HK
  go_upto_region 5 with (first
    | (refine wpList_load_rowW rfl 23 (.tmp 4) rfl _ rfl 23 za (0, 0) _ H1.out Try.underlying23 rfl (size23.trans (by rw [HZ.out])) ?_)
    | (go_at_call 26; (with_reducible refine (HPL.out _ HRL1.out).mono ?_); rintro e w2 ⟨A', c', rfl, hrs, hb2⟩; have HRS := Hf.mk hrs; have HB2 := Hf.mk hb2; have H2 := Hf.mk (kept_heap H1.out hb2); have HRL2 := Hf.mk (HRL1.out.below hb2); clear hb2 hrs))
  have HW2 := Hf.mk (below_step (below_step HB0.out HB1.out) HB2.out)
  by_cases hlong : live.length ≤ 100
  · have hlong' : ¬ (100 : Int) < (live.length : Int) := by omega
    have HAL := Hf.mk (alive_any n A live lc w2 hn64 HRL2.out (by omega))
    have hn64' : (n : Int) ≤ 64 := by omega
    have hn1' : (1 : Int) ≤ (n : Int) := by omega
    go_wp2_with (go_at_call 35; (with_reducible refine HAL.out.mono ?_); rintro e w3 ⟨rfl, hup, hb3⟩; have HUP := Hf.mk hup; have HB3 := Hf.mk hb3; have H3 := Hf.mk (kept_heap H2.out hb3); have HRS3 := Hf.mk (HRS.out.below hb3); clear hup hb3)
    go_loop [13, 14] (fun v i => ∃ k : Nat, k ≤ n ∧ i = .int .i64 ((k : Int) + 1) ∧ v = .int .i64 (manyL live k)) (fun _ i => n + 1 - (intOf i).toNat)
    case atStart => exact ⟨0, by omega, rfl, rfl⟩
    case round =>
      obtain ⟨k, hk, rfl, rfl⟩ := hrel
      by_cases hgo : k < n
      · have hgo2 : (k : Int) + 1 ≤ (n : Int) := by omega
        have c0 := Go.Joins.cell_of_block HUP.out (k + 1)
        rw [upC_get _ _ _ (by omega)] at c0
        have HMS := Hf.mk (manyL_step live k)
        have hmk : manyL live k ≤ k := by unfold manyL; exact Nat.le_trans (List.length_filter_le _ _) (by rw [List.length_range]; exact Nat.le_refl _)
        generalize manyL live k = mk at HMS hmk ⊢
        by_cases hin : ((k + 1 : Nat) : Int) ∈ live
        · rw [decide_eq_true (show 1 ≤ k + 1 ∧ ((k + 1 : Nat) : Int) ∈ live from ⟨by omega, hin⟩)] at c0
          rw [if_pos hin] at HMS
          clear hin
          have hmk' : (mk : Int) ≤ 64 := by omega
          go_wp2
          go_round
          case rel => exact ⟨k + 1, by omega, by go_num, by rw [HMS.out]; go_num⟩
          case measure => simp [intOf]; omega
        · rw [decide_eq_false (show ¬ (1 ≤ k + 1 ∧ ((k + 1 : Nat) : Int) ∈ live) from fun h => hin h.2)] at c0
          rw [if_neg hin, Nat.add_zero] at HMS
          clear hin
          go_wp2
          go_round
          case rel => exact ⟨k + 1, by omega, by go_num, by rw [HMS.out, Nat.add_zero]⟩
          case measure => simp [intOf]; omega
      · obtain rfl : k = n := by omega
        have hmk : manyL live k ≤ k := by unfold manyL; exact Nat.le_trans (List.length_filter_le _ _) (by rw [List.length_range]; exact Nat.le_refl _)
        generalize manyL live k = mk at HLEN hmk ⊢
        have hlenS := HLEN.out
        have hcI : (c : Int) ≤ (k : Int) := by omega
        have hSz : S.length ≤ 64 := by omega
        go_upto_region 15 with fail
        clear hlenS
        have HSL := Hf.mk hSz
        go_wp2
        go_loopw [15] (fun i wr => ∃ q : Nat, q ≤ S.length ∧ i = .int .i64 q ∧ Hf (Below w3.heap.size w3 wr)) (fun i _ => S.length - (intOf i).toNat)
        case atStart => exact ⟨0, by omega, rfl, ⟨Below.refl _ _⟩⟩
        case round =>
          obtain ⟨q, hq, rfl, HB⟩ := hrel
          by_cases hgo : q < S.length
          · have hgo2 : (q : Int) < (S.length : Int) := by omega
            obtain ⟨b, rfl, hbl, c0, c1⟩ := (HRS3.out.below HB.out) q hgo
            obtain ⟨⟨hx1, hx2⟩, ⟨hy1, hy2⟩, hxl, hyh, hne⟩ := HMEM.out q hgo
            have HAQ := Hf.mk (fun j (hj : j < q) => HAP.out j q hj hgo)
            obtain ⟨x, hx⟩ : ∃ x, (S.getD q (0, 0)).1 = x := ⟨_, rfl⟩
            obtain ⟨y, hy⟩ : ∃ y, (S.getD q (0, 0)).2 = y := ⟨_, rfl⟩
            rw [hx] at c0 hx1 hx2 hxl hne HAQ
            rw [hy] at c1 hy1 hy2 hyh hne HAQ
            clear hx hy
            obtain ⟨xn, rfl⟩ : ∃ t : Nat, x = t := ⟨x.toNat, by omega⟩
            obtain ⟨yn, rfl⟩ : ∃ t : Nat, y = t := ⟨y.toNat, by omega⟩
            go_upto_region 19 with fail
            obtain ⟨wx, hwx⟩ : ∃ wx, wr.heap.size = wx := ⟨_, rfl⟩
            have hv := heap_alloc_new wr (.cells #[Value.int .i64 (xn : Nat), .int .i64 (yn : Nat)] 52)
            have hbv : Below wr.heap.size wr (wr.alloc (.cells #[Value.int .i64 (xn : Nat), .int .i64 (yn : Nat)] 52)) := (Below.refl _ _).alloc (Nat.le_refl _) _
            have hbw := HB.out.trans (hbv.mono HB.out.size)
            rw [hwx] at hv ⊢
            generalize wr.alloc (.cells #[Value.int .i64 (xn : Nat), .int .i64 (yn : Nat)] 52) = V at hv hbv hbw ⊢
            have HBV := Hf.mk hbw
            have HVL : Hf (wx < V.heap.size) := ⟨(Array.getElem?_eq_some_iff.1 hv).1⟩
            have v0 : V.cell? ⟨wx, 0, none⟩ = some (.int .i64 (xn : Nat)) := Go.Joins.cell_of_block hv 0
            have v1 : V.cell? ⟨wx, 1, none⟩ = some (.int .i64 (yn : Nat)) := Go.Joins.cell_of_block hv 1
            have HUV := Hf.mk (kept_heap HUP.out hbw)
            have u0 := Go.Joins.cell_of_block HUV.out xn
            rw [upC_get _ _ _ (by omega), decide_eq_true (show 1 ≤ xn ∧ (xn : Int) ∈ live from ⟨by omega, hxl⟩)] at u0
            have H4 := Hf.mk (kept_heap H3.out hbw)
            have HHY := Hf.mk (fun u => HHM.out (yn : Int) u)
            rw [decide_eq_true hyh] at HHY
            have i1 : ¬ (xn : Int) < 1 := by omega
            have i2 : ¬ (k : Int) < (xn : Int) := by omega
            have i3 : (xn : Int) < (k : Int) + 1 := by omega
            have i4 : (yn : Int) < (k : Int) + 1 := by omega
            have hyk : yn < k + 1 := by omega
            have HX0' := Hf.mk v0
            have HX1' := Hf.mk v1
            clear hv hbv hbw hx1 hx2 hy1 hy2 hyh hxl c0 c1 hwx
            by_cases hxy : xn = yn
            · subst hxy
              have tokL : True := trivial
              go_upto_region 22 with (first
                | (have _t := tokL; (refine wpList_load_rowW rfl 23 (.tmp 4) rfl _ rfl 23 za (0, 0) _ H4.out Try.underlying23 rfl (size23.trans (by rw [HZ.out])) ?_); clear tokL)
                | (go_at_call 30; (with_reducible refine (HHY.out _).mono ?_); rintro e wq ⟨rfl, hbq⟩; have HBQ := Hf.mk hbq; have x0 := (hbq.cell (p := ⟨wx, 0, none⟩) HVL.out).trans HX0'.out; have x1 := (hbq.cell (p := ⟨wx, 1, none⟩) HVL.out).trans HX1'.out; have HX0 := Hf.mk x0; have HX1 := Hf.mk x1; have HWX : Hf (wx < wq.heap.size) := ⟨Nat.lt_of_lt_of_le HVL.out hbq.size⟩; clear hbq v0 v1 u0))
              clear x0 x1
              have HBV2 : Hf (Below w3.heap.size w3 wq) := ⟨HBV.out.trans (HBQ.out.mono HBV.out.size)⟩
              go_loopw [17] (fun i wr9 => ∃ j : Nat, j ≤ q ∧ i = .int .i64 j ∧ Hf (Below wq.heap.size wq wr9)) (fun i _ => q - (intOf i).toNat)
              case atStart => exact ⟨0, by omega, rfl, ⟨Below.refl _ _⟩⟩
              case round =>
                obtain ⟨j, hj, rfl, HB9⟩ := hrel
                by_cases hgj : j < q
                · have hgj2 : (j : Int) < (q : Int) := by omega
                  obtain ⟨_, e9, _, d0, d1⟩ := (HRS3.out.below (HBV2.out.trans (HB9.out.mono HBV2.out.size))) j (by omega)
                  cases e9
                  have hap := HAQ.out j hgj
                  have t0 := (HB9.out.cell (p := ⟨wx, 0, none⟩) HWX.out).trans HX0.out
                  have t1 := (HB9.out.cell (p := ⟨wx, 1, none⟩) HWX.out).trans HX1.out
                  generalize (S.getD j (0, 0)).1 = x9 at d0 hap
                  generalize (S.getD j (0, 0)).2 = y9 at d1 hap
                  have a1 : (x9 == (xn : Int)) = false := beq_eq_false_iff_ne.2 hap.1
                  have a2 : (y9 == (xn : Int)) = false := beq_eq_false_iff_ne.2 hap.2
                  have hjS : (j : Int) < (S.length : Int) := by omega
                  clear hap
                  go_wp2_with go_quiet (fail)
                  go_roundw
                  case rel => exact ⟨j + 1, by omega, by go_num, ⟨below_drewN HB9.out _⟩⟩
                  case measure => simp [intOf]; omega
                · obtain rfl : j = q := by omega
                  go_wp2
                  go_roundw
                  case rel => exact ⟨j + 1, by omega, by go_num, ⟨HBV2.out.trans (HB9.out.mono HBV2.out.size)⟩⟩
                  case measure => simp [intOf]; omega
            · obtain ⟨hnl, hnh⟩ := hne (fun e => hxy (by omega))
              have hxy' : ¬ (xn : Int) = (yn : Int) := fun e => hxy (by omega)
              have hxy2 : ((xn : Int) == (yn : Int)) = false := beq_eq_false_iff_ne.2 hxy'
              have u1 := Go.Joins.cell_of_block HUV.out yn
              rw [upC_get _ _ _ hyk, decide_eq_false (show ¬ (1 ≤ yn ∧ (yn : Int) ∈ live) from fun h => hnl h.2)] at u1
              have HU1 := Hf.mk u1
              have HUL : Hf (w2.heap.size < V.heap.size) := ⟨(Array.getElem?_eq_some_iff.1 HUV.out).1⟩
              have HHX := Hf.mk (fun u => HHM.out (xn : Int) u)
              rw [decide_eq_false hnh] at HHX
              have tok1 : True := trivial
              clear hnl hnh
              go_upto_region 22 with (first
                | (refine wpList_load_rowW rfl 23 (.tmp 4) rfl _ rfl 23 za (0, 0) _ H4.out Try.underlying23 rfl (size23.trans (by rw [HZ.out])) ?_)
                | (go_at_call 30; have _t := tok1; (with_reducible refine (HHY.out _).mono ?_); rintro e wp ⟨rfl, hbp⟩; have HBP := Hf.mk hbp; have v0 := (hbp.cell (p := ⟨wx, 0, none⟩) HVL.out).trans HX0'.out; have v1 := (hbp.cell (p := ⟨wx, 1, none⟩) HVL.out).trans HX1'.out; have u1 := (hbp.cell (p := ⟨w2.heap.size, yn, none⟩) HUL.out).trans HU1.out; have HXP0 := Hf.mk v0; have HXP1 := Hf.mk v1; have HWP : Hf (wx < wp.heap.size) := ⟨Nat.lt_of_lt_of_le HVL.out hbp.size⟩; have H5 := Hf.mk (kept_heap H4.out hbp); clear hbp tok1)
                | (refine wpList_load_rowW rfl 23 (.tmp 4) rfl _ rfl 23 za (0, 0) _ H5.out Try.underlying23 rfl (size23.trans (by rw [HZ.out])) ?_)
                | (go_at_call 30; (with_reducible refine (HHX.out _).mono ?_); rintro e wq ⟨rfl, hbq⟩; have HBQ := Hf.mk hbq; have x0 := (hbq.cell (p := ⟨wx, 0, none⟩) HWP.out).trans HXP0.out; have x1 := (hbq.cell (p := ⟨wx, 1, none⟩) HWP.out).trans HXP1.out; have HX0 := Hf.mk x0; have HX1 := Hf.mk x1; have HWX : Hf (wx < wq.heap.size) := ⟨Nat.lt_of_lt_of_le HWP.out hbq.size⟩; clear hbq v0 v1 u0 u1))
              clear x0 x1
              have HBV2 : Hf (Below w3.heap.size w3 wq) := ⟨below_step (HBV.out.trans (HBP.out.mono HBV.out.size)) HBQ.out⟩
              go_loopw [17] (fun i wr9 => ∃ j : Nat, j ≤ q ∧ i = .int .i64 j ∧ Hf (Below wq.heap.size wq wr9)) (fun i _ => q - (intOf i).toNat)
              case atStart => exact ⟨0, by omega, rfl, ⟨Below.refl _ _⟩⟩
              case round =>
                obtain ⟨j, hj, rfl, HB9⟩ := hrel
                by_cases hgj : j < q
                · have hgj2 : (j : Int) < (q : Int) := by omega
                  obtain ⟨_, e9, _, d0, d1⟩ := (HRS3.out.below (HBV2.out.trans (HB9.out.mono HBV2.out.size))) j (by omega)
                  cases e9
                  have hap := HAQ.out j hgj
                  have t0 := (HB9.out.cell (p := ⟨wx, 0, none⟩) HWX.out).trans HX0.out
                  have t1 := (HB9.out.cell (p := ⟨wx, 1, none⟩) HWX.out).trans HX1.out
                  generalize (S.getD j (0, 0)).1 = x9 at d0 hap
                  generalize (S.getD j (0, 0)).2 = y9 at d1 hap
                  have a1 : (x9 == (xn : Int)) = false := beq_eq_false_iff_ne.2 hap.1
                  have a2 : (y9 == (yn : Int)) = false := beq_eq_false_iff_ne.2 hap.2
                  have hjS : (j : Int) < (S.length : Int) := by omega
                  clear hap
                  go_wp2_with go_quiet (fail)
                  go_roundw
                  case rel => exact ⟨j + 1, by omega, by go_num, ⟨below_drewN HB9.out _⟩⟩
                  case measure => simp [intOf]; omega
                · obtain rfl : j = q := by omega
                  go_wp2
                  go_roundw
                  case rel => exact ⟨j + 1, by omega, by go_num, ⟨HBV2.out.trans (HB9.out.mono HBV2.out.size)⟩⟩
                  case measure => simp [intOf]; omega
          · obtain rfl : q = S.length := by omega
            go_wp2
            go_ret
            exact ⟨rfl, below_step (below_step HW2.out HB3.out) HB.out⟩
  · have hlong' : (100 : Int) < (live.length : Int) := by omega
    go_wp2
    go_ret
    exact ⟨rfl, HW2.out⟩
end Go.Proofs.Ytaaepadhapfkoaa
