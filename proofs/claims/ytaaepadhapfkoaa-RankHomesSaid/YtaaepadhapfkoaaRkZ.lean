/-
  Rank: RankHomes' walk.
-/
import Derived.Test.YtaaepadhapfkoaaRkG
import Derived.Test.YtaaepadhapfkoaaRkY
import Derived.Test.YtaaepadhapfkoaaDgW
import Derived.Maps.AppendAt
import Derived.Deep.RegionHeld3
import Derived.Deep.MidRow
namespace Go.Proofs.Ytaaepadhapfkoaa
set_option linter.unusedSimpArgs false
set_option linter.unusedVariables false
open Go.RowKit

theorem placedH (id : List Nat) (n c : Nat) (live : List Int) (A : Option Addr) (lc : Nat) (hl : id.length = 32) (hb : ∀ c ∈ id, c < 256) (hn : 1 ≤ n) (hn2 : n ≤ 64) (hc : 1 ≤ c) (hc2 : c ≤ n) (hll : live.length ≤ 9223372036854775807) (u : World) (h : RdI u A live) :
    Calls Try.prog 26 #[.agg (cellsOf id).toArray, .int .i64 n, .int .i64 c, .slice A live.length lc] u fun e w' => ∃ A' c', e = .returned (.tuple #[.slice A' (placeS id n c live).length c', .int .i64 0]) ∧ RdS w' A' (placeS id n c live) ∧ Below u.heap.size u w' := by
  refine (place_any id n c live A lc u hl hb hn hn2 hc hc2 h hll).mono fun e w' h2 => ?_
  obtain ⟨v, he, ho, hb⟩ := h2
  obtain ⟨A', c', rfl, hr, _⟩ := rdS_own rfl ho
  exact ⟨A', c', he, hr, hb⟩
theorem spot_getH {l : List (Int × Int)} {k : Nat} (h : k < l.length) : l.getD k (0, 0) ∈ l := by
  rw [List.getD_eq_getElem?_getD, List.getElem?_eq_getElem h]
  exact List.getElem_mem h
theorem dup_get {l : List Int} {c i : Nat} (hi : i < c) (hc : c ≤ l.length) : ((l.take c).map fun h => (h, h)).getD i (0, 0) = (l.getD i 0, l.getD i 0) := by
  have h1 : i < l.length := by omega
  simp [List.getD, hi, h1, List.getElem?_take]
theorem keep4 {w1 W W' : World} {g bl go q : Nat} {cs : List Value} {x : Value} (hg : g < w1.heap.size) (hb : bl < w1.heap.size) (ho : go < w1.heap.size)
    (h : W.rangeAt g 0 cs ∧ W.cell? ⟨bl, q * 2, none⟩ = some x ∧ W.cell? ⟨bl, q * 2 + 1, none⟩ = some x ∧ W.cell? ⟨go, q, none⟩ = some x ∧ Below w1.heap.size w1 W) (hb' : Below W.heap.size W W') :
    W'.rangeAt g 0 cs ∧ W'.cell? ⟨bl, q * 2, none⟩ = some x ∧ W'.cell? ⟨bl, q * 2 + 1, none⟩ = some x ∧ W'.cell? ⟨go, q, none⟩ = some x ∧ Below w1.heap.size w1 W' := by
  obtain ⟨h1, h2, h3, h4, h5⟩ := h
  exact ⟨(keep_next hg ⟨h1, h5⟩ hb').1, (hb'.cell (p := ⟨bl, q * 2, none⟩) (Nat.lt_of_lt_of_le hb h5.size)).trans h2, (hb'.cell (p := ⟨bl, q * 2 + 1, none⟩) (Nat.lt_of_lt_of_le hb h5.size)).trans h3, (hb'.cell (p := ⟨go, q, none⟩) (Nat.lt_of_lt_of_le ho h5.size)).trans h4, below_step h5 hb'⟩
theorem keep3 {w1 W W' : World} {g go q : Nat} {cs : List Value} {x : Value} (hg : g < w1.heap.size) (ho : go < w1.heap.size)
    (h : W.rangeAt g 0 cs ∧ W.cell? ⟨go, q, none⟩ = some x ∧ Below w1.heap.size w1 W) (hb' : Below W.heap.size W W') :
    W'.rangeAt g 0 cs ∧ W'.cell? ⟨go, q, none⟩ = some x ∧ Below w1.heap.size w1 W' := by
  obtain ⟨h1, h4, h5⟩ := h
  exact ⟨(keep_next hg ⟨h1, h5⟩ hb').1, (hb'.cell (p := ⟨go, q, none⟩) (Nat.lt_of_lt_of_le ho h5.size)).trans h4, below_step h5 hb'⟩
/-- two rows of one's own, apart -/
def Apart (v1 v2 : Value) : Prop := ∀ g, v1.ownBlock = some g → v2.ownBlock ≠ some g
theorem two_rows {wr w' : World} {B n2 : Nat} {v1 v1' v2 : Value} {xs2 : List Value} {tmp : Obj} (h2 : wr.ownsRow B 3 1 v2 n2 xs2) (hd : Apart v1 v2) (hg : (wr.alloc tmp).grownBy w' v1.ownBlock) (hat : v1'.ownBlock = v1.ownBlock ∨ v1'.ownBlock = some (wr.alloc tmp).heap.size) : w'.ownsRow B 3 1 v2 n2 xs2 ∧ Apart v1' v2 := by
  have hlt : ∀ g, v2.ownBlock = some g → g < wr.heap.size := fun g e => by
    rcases h2.2 with ⟨rfl, _⟩ | ⟨g', cap, cur, rfl, _, hh, _⟩
    · cases e
    · cases e; exact (Array.getElem?_eq_some_iff.1 hh).1
  refine ⟨(h2.alloc tmp).kept hg ?_, fun g hg1 hg2 => ?_⟩
  · cases h : v2.ownBlock with
    | none => exact .inl rfl
    | some g => exact .inr (fun e => hd g e.symm h)
  · rcases hat with e | e
    · exact hd g (by rw [← e]; exact hg1) hg2
    · rw [e] at hg1
      have := hlt g hg2
      simp at hg1
      omega
theorem Apart.symm {v1 v2 : Value} (h : Apart v1 v2) : Apart v2 v1 := fun g h1 h2 => h g h2 h1
set_option maxHeartbeats 2000000 in
set_option maxRecDepth 100000 in
theorem homes17 (id : List Nat) (nodes copies gone : Int) (w : World) (hl : id.length = 32) (hb : ∀ c ∈ id, c < 256) :
    Calls Try.prog 9 #[.agg (cellsOf id).toArray, .int .i64 nodes, .int .i64 copies, .int .i64 gone] w fun e w' => e = .returned (.bool true) ∧ Below w.heap.size w w' := by
  obtain ⟨m, hm⟩ : ∃ m : Nat, nodes % 64 = m := ⟨(nodes % 64).toNat, by have := Int.emod_nonneg nodes (show (64 : Int) ≠ 0 by decide); omega⟩
  have hm2 : m < 64 := by have := Int.emod_lt_of_pos nodes (show (0 : Int) < 64 by decide); omega
  have HPK1 := Hf.mk (fun u => Pick_any nodes 64 u (by decide) (by decide))
  rw [hm] at HPK1
  obtain ⟨n, hn⟩ : ∃ n, m + 1 = n := ⟨_, rfl⟩
  have hn1 : 1 ≤ n := by omega
  have hn64 : n ≤ 64 := by omega
  obtain ⟨p, hp⟩ : ∃ p : Nat, copies % (n : Int) = p := ⟨(copies % (n : Int)).toNat, by have := Int.emod_nonneg copies (show (n : Int) ≠ 0 by omega); omega⟩
  have hp2 : p < n := by have := Int.emod_lt_of_pos copies (show (0 : Int) < n by omega); omega
  have HPK2 := Hf.mk (fun u => Pick_any copies n u (by omega) (by omega))
  rw [hp] at HPK2
  obtain ⟨c, hc⟩ : ∃ c, p + 1 = c := ⟨_, rfl⟩
  have hc1 : 1 ≤ c := by omega
  have hcn : c ≤ n := by omega
  obtain ⟨r, hr⟩ : ∃ r : Nat, gone % (n : Int) = r := ⟨(gone % (n : Int)).toNat, by have := Int.emod_nonneg gone (show (n : Int) ≠ 0 by omega); omega⟩
  have hr2 : r < n := by have := Int.emod_lt_of_pos gone (show (0 : Int) < n by omega); omega
  have HPK3 := Hf.mk (fun u => Pick_any gone n u (by omega) (by omega))
  rw [hr] at HPK3
  obtain ⟨g, hg⟩ : ∃ g, r + 1 = g := ⟨_, rfl⟩
  have hg1 : 1 ≤ g := by omega
  have hgn : g ≤ n := by omega
  have e1 : (1 : Int) + (m : Int) = (n : Int) := by omega
  have e2 : (1 : Int) + (p : Int) = (c : Int) := by omega
  have e3 : (1 : Int) + (r : Int) = (g : Int) := by omega
  clear hm hn hp hc hr hg hp2 hm2 hr2
  have HK := Hf.mk awake17
  have HPA := Hf.mk (fun (A : Option Addr) (lc : Nat) (u : World) (h : RdI u A (allN n)) => placedH id n c (allN n) A lc hl hb hn1 hn64 hc1 hcn (by rw [allN_len]; omega) u h)
  rw [allN_len, placeS_all, List.length_map, List.length_take, ordI_len, Nat.min_eq_left hcn] at HPA
  have HPB := Hf.mk (fun (A : Option Addr) (lc : Nat) (u : World) (h : RdI u A (lessN g n)) => placedH id n c (lessN g n) A lc hl hb hn1 hn64 hc1 hcn (by have := lessN_len g n; omega) u h)
  have HLO := Hf.mk (fun u => law_order id n u hl hb hn1 hn64)
  have HHM := Hf.mk (fun (x : Int) u => home_fine id n c x u hl hb hn1 hn64 hc1 hcn)
  have HBL := Hf.mk (homes_less_len id n c g hcn)
  have HSBL : Hf ((placeS id n c (lessN g n)).length ≤ c) := ⟨by rw [placeS_len _ _ _ _ hcn]; exact Nat.min_le_left _ _⟩
  have HBM := Hf.mk (fun k (h : k < (placeS id n c (lessN g n)).length) => homes_less (gone := g) ⟨by omega, by omega⟩ (spot_getH h))
  have HIN := Hf.mk (fun i (hi : i < c) => home_in (id := id) hi hcn)
  have HOUT := Hf.mk (fun i (hi : c ≤ i) (hi2 : i < n) => home_out (id := id) hi hi2)
  have HOL := Hf.mk (ordI_len id n)
  have hz : (cellsOf id).toArray.size = 32 := by rw [List.size_toArray, cellsOf_length, hl]
  have hcl : (Try.prog.info? 23).map (·.size) = some (cellsOf id).length := by rw [cellsOf_length, hl]; exact size23b
  have hu23 := Try.underlying23
  have h1 := heap_alloc_new w (.cells (cellsOf id).toArray 23)
  have hb0 : Below w.heap.size w (w.alloc (.cells (cellsOf id).toArray 23)) := (Below.refl _ _).alloc (Nat.le_refl _) _
  clear hl hb
  generalize cellsOf id = cs at *
  generalize placeS id n c (lessN g n) = SB at *
  generalize ordI id n = O at *
  have H0 := Hf.mk h1
  have HZ := Hf.mk hz
  have HB0 := Hf.mk hb0
  clear h1 hz hb0
  go_enter Try.func9, Try.ntmps9
  go_upto_region 1 with fail
  generalize w.alloc (.cells cs.toArray 23) = W at *
  go_upto_region 3 with (first
    | (go_at_call 22; (with_reducible refine (HK.out _).mono ?_); rintro e w1 ⟨rfl, hb1⟩; have HB1 := Hf.mk hb1; have H1 := Hf.mk (kept_heap H0.out hb1); clear hb1)
    | (go_at_call 33; (with_reducible refine (HPK1.out _).mono ?_); rintro e w' ⟨rfl, hw'⟩; subst hw'))
  go_upto_region 4 with (go_at_call 33; (with_reducible refine (HPK2.out _).mono ?_); rintro e w' ⟨rfl, hw'⟩; subst hw')
  go_upto_region 5 with (go_at_call 33; (with_reducible refine (HPK3.out _).mono ?_); rintro e w' ⟨rfl, hw'⟩; subst hw')
  clear e1 e2 e3 HPK1 HPK2 HPK3 HK
  have hn64' : (n : Int) ≤ 64 := by omega
  have hn1' : (1 : Int) ≤ (n : Int) := by omega
  have hcn' : (c : Int) ≤ (n : Int) := by omega
  have hc1' : (1 : Int) ≤ (c : Int) := by omega
  go_wp2
  go_loopw [10, 11, 12] (fun v10 v11 i wr => ∃ k : Nat, k ≤ n ∧ i = .int .i64 ((k : Int) + 1) ∧ Hf (wr.ownsRow w1.heap.size 3 1 v10 k (intsZ (allN k))) ∧ Hf (wr.ownsRow w1.heap.size 3 1 v11 (lessN g k).length (intsZ (lessN g k))) ∧ Hf (Apart v10 v11) ∧ Hf (Below w1.heap.size w1 wr)) (fun _ _ i _ => n + 1 - (intOf i).toNat)
  case atStart => exact ⟨0, by omega, rfl, ⟨World.ownsRow_nil _ _ _ _⟩, ⟨World.ownsRow_nil _ _ _ _⟩, ⟨fun g h => by cases h⟩, ⟨Below.refl _ _⟩⟩
  case round =>
    obtain ⟨k, hk, rfl, HO1, HO2, HAP, HB⟩ := hrel
    by_cases hgo : k < n
    · have hgo2 : (k : Int) + 1 ≤ (n : Int) := by omega
      obtain ⟨i3, hi3, hz30, hz31, hz32⟩ := info_parts info3
      have HMX : Hf (k + 1 ≤ maxLen) := ⟨by unfold maxLen; omega⟩
      have HMY : Hf ((lessN g k).length + 1 ≤ maxLen) := ⟨by have := lessN_len g k; unfold maxLen; omega⟩
      have hll := lessN_len g k
      have HAS : Hf (intsZ (allN (k + 1)) = intsZ (allN k) ++ [.int .i64 ((k : Int) + 1)]) := ⟨by rw [allN_step]; unfold intsZ; rw [List.map_append]; rfl⟩
      have HLS := Hf.mk (lessN_step (g : Int) k)
      have tok1 : True := trivial
      by_cases hkg : k + 1 = g
      · have hkb : (((k : Int) + 1) != (g : Int)) = false := by rw [show (k : Int) + 1 = (g : Int) from by omega]; exact bne_self_eq_false _
        rw [if_pos (by omega), List.append_nil] at HLS
        go_wp2_with (at_builtin; have _t := tok1; refine wpList_append_own_at _ rfl (.tmp 38) (.tmp 40) 34 rfl w1.heap.size 3 i3 (.int .i64 0) 1 8 Try.underlying34 hi3 hz30 hz31 hz32 rfl (by decide) _ k (intsZ (allN k)) rfl (HO1.out.alloc _) ⟨wr.heap.size, 0, none⟩ 1 1 [.int .i64 ((k : Int) + 1)] rfl rfl (new_cells1 _ _ _) (by simp [Value.oneCell']) HMX.out (by omega) (by have := HB.out.size; simp; omega) ?_; clear tok1; intro v4 w4 hown4 hgrow4 _ hat4; have HO4 := Hf.mk hown4; have HTR := Hf.mk (two_rows HO2.out HAP.out hgrow4 hat4); have HB4 := Hf.mk (HB.out.trans (below_own (HO1.out.alloc _) (Below.refl _ _) hgrow4 HB.out.size)); clear hown4 hgrow4 hat4)
        go_roundw
        case rel => exact ⟨k + 1, by omega, by go_num, ⟨by rw [HAS.out]; exact HO4.out⟩, ⟨by rw [HLS.out]; exact HTR.out.1⟩, ⟨HTR.out.2⟩, HB4⟩
        case measure => simp [intOf]; omega
      · have hkg' : ¬ (k : Int) + 1 = (g : Int) := by omega
        rw [if_neg (by omega)] at HLS
        have HLS2 : Hf (intsZ (lessN g (k + 1)) = intsZ (lessN g k) ++ [.int .i64 ((k : Int) + 1)]) := ⟨by rw [HLS.out]; unfold intsZ; rw [List.map_append]; rfl⟩
        have HLS3 : Hf ((lessN g (k + 1)).length = (lessN g k).length + 1) := ⟨by rw [HLS.out, List.length_append]; rfl⟩
        go_wp2_with (first
          | (at_builtin; have _t := tok1; refine wpList_append_own_at _ rfl (.tmp 38) (.tmp 40) 34 rfl w1.heap.size 3 i3 (.int .i64 0) 1 8 Try.underlying34 hi3 hz30 hz31 hz32 rfl (by decide) _ k (intsZ (allN k)) rfl (HO1.out.alloc _) ⟨wr.heap.size, 0, none⟩ 1 1 [.int .i64 ((k : Int) + 1)] rfl rfl (new_cells1 _ _ _) (by simp [Value.oneCell']) HMX.out (by omega) (by have := HB.out.size; simp; omega) ?_; clear tok1; intro v4 w4 hown4 hgrow4 _ hat4; have HO4 := Hf.mk hown4; have HTR := Hf.mk (two_rows HO2.out HAP.out hgrow4 hat4); have HB4 := Hf.mk (HB.out.trans (below_own (HO1.out.alloc _) (Below.refl _ _) hgrow4 HB.out.size)); clear hown4 hgrow4 hat4)
          | (at_builtin; refine wpList_append_own_at _ rfl (.tmp 45) (.tmp 47) 34 rfl w1.heap.size 3 i3 (.int .i64 0) 1 8 Try.underlying34 hi3 hz30 hz31 hz32 rfl (by decide) _ (lessN g k).length (intsZ (lessN g k)) rfl (HTR.out.1.alloc _) ⟨w4.heap.size, 0, none⟩ 1 1 [.int .i64 ((k : Int) + 1)] rfl rfl (new_cells1 _ _ _) (by simp [Value.oneCell']) HMY.out (by omega) (by have := HB4.out.size; simp; omega) ?_; intro v5 w5 hown5 hgrow5 _ hat5; have HO5 := Hf.mk hown5; have HTS := Hf.mk (two_rows HO4.out HTR.out.2.symm hgrow5 hat5); have HB5 := Hf.mk (HB4.out.trans (below_own (HTR.out.1.alloc _) (Below.refl _ _) hgrow5 HB4.out.size)); clear hown5 hgrow5 hat5))
        go_roundw
        case rel => exact ⟨k + 1, by omega, by go_num, ⟨by rw [HAS.out]; exact HTS.out.1⟩, ⟨by rw [HLS2.out, HLS3.out]; exact HO5.out⟩, ⟨HTS.out.2.symm⟩, HB5⟩
        case measure => simp [intOf]; omega
    · obtain rfl : k = n := by omega
      obtain ⟨A1, cA1, rfl, hr1, _⟩ := rdI_ownZ (allN_len k).symm HO1.out
      obtain ⟨A2, cA2, rfl, hr2, _⟩ := rdI_ownZ rfl HO2.out
      rw [allN_len]
      have H2 := Hf.mk (kept_heap H1.out HB.out)
      have HRA := Hf.mk hr1
      have HRB := Hf.mk hr2
      clear hr1 hr2 HO1 HO2 HAP
      have tok1 : True := trivial
      go_upto_region 15 with (first
        | (refine wpList_load_rowW rfl 23 (.tmp 4) rfl _ rfl 23 cs.toArray (0, 0) _ H2.out Try.underlying23 rfl (size23.trans (by rw [HZ.out])) ?_)
        | (go_at_call 34; (with_reducible refine (HLO.out _).mono ?_); rintro e w2 ⟨go, co, rfl, hro, hco, hb2⟩; have HRO := Hf.mk hro; have HB2 := Hf.mk hb2; have H3 := Hf.mk (kept_heap H2.out hb2); have HRA2 := Hf.mk (HRA.out.below hb2); have HRB2 := Hf.mk (HRB.out.below hb2); clear hro hb2)
        | (refine wpList_load_rowW rfl 23 (.tmp 4) rfl _ rfl 23 cs.toArray (0, 0) _ H3.out Try.underlying23 rfl (size23.trans (by rw [HZ.out])) ?_)
        | (go_at_call 26; have _t := tok1; (with_reducible refine (HPA.out _ _ _ HRA2.out).mono ?_); rintro e w3 ⟨A3, c3, rfl, hrs, hb3⟩; clear tok1; have HRS := Hf.mk hrs; have HB3 := Hf.mk hb3; have H4 := Hf.mk (kept_heap H3.out hb3); have HRB3 := Hf.mk (HRB2.out.below hb3); clear hrs hb3)
        | (refine wpList_load_rowW rfl 23 (.tmp 4) rfl _ rfl 23 cs.toArray (0, 0) _ H4.out Try.underlying23 rfl (size23.trans (by rw [HZ.out])) ?_)
        | (go_at_call 26; (with_reducible refine (HPB.out _ _ _ HRB3.out).mono ?_); rintro e w4 ⟨A4, c4, rfl, hrs, hb4⟩; have HRT := Hf.mk hrs; have HB4 := Hf.mk hb4; have H5 := Hf.mk (kept_heap H4.out hb4); clear hrs hb4))
      have HRS4 := Hf.mk (HRS.out.below HB4.out)
      have HRO4 := Hf.mk ((HRO.out.below HB3.out).below HB4.out)
      have hsb : ¬ (SB.length : Int) < (c : Int) - 1 := by have := HBL.out; omega
      have hsb2 : SB.length ≤ 64 := by have := HSBL.out; omega
      have HW4 := Hf.mk (below_step (below_step (below_step (below_step (below_step HB0.out HB1.out) HB.out) HB2.out) HB3.out) HB4.out)
      have HGL : Hf (w.heap.size < w4.heap.size) := ⟨(Array.getElem?_eq_some_iff.1 H5.out).1⟩
      clear HRS HRO HRA HRB HRA2 HRB2 HRB3 HB2 HB3 HB4 H2 H3 H4 HLO HPA HPB HB0 HB1 H0 H1
      go_upto_region 17 with fail
      go_wp2
      go_loopw [18] (fun i wr => ∃ q : Nat, q ≤ c ∧ i = .int .i64 q ∧ Hf (Below w4.heap.size w4 wr)) (fun i _ => c - (intOf i).toNat)
      case atStart => exact ⟨0, by omega, rfl, ⟨Below.refl _ _⟩⟩
      case round =>
        obtain ⟨q, hq, rfl, HB6⟩ := hrel
        by_cases hgo : q < c
        · have hgo2 : (q : Int) < (c : Int) := by omega
          have hqk : (q : Int) < (k : Int) := by omega
          obtain ⟨bl, rfl, hbl, c0, c1⟩ := (HRS4.out.below HB6.out) q (by rw [List.length_map, List.length_take, HOL.out]; omega)
          rw [dup_get hgo (by rw [HOL.out]; exact hcn)] at c0 c1
          obtain ⟨_, _, e9, hol, hcell⟩ := (HRO4.out.below HB6.out).form (by rw [HOL.out]; omega)
          cases e9
          have q0 := hcell q (by rw [HOL.out]; omega)
          rw [Nat.zero_add] at q0
          have HHI := Hf.mk (fun u => HHM.out (O.getD q 0) u)
          rw [decide_eq_true (HIN.out q hgo)] at HHI
          generalize O.getD q 0 = x at c0 c1 q0 HHI
          have hra := range_heap (kept_heap H5.out HB6.out)
          have hgl : w.heap.size < wr.heap.size := Nat.lt_of_lt_of_le HGL.out HB6.out.size
          clear hcell
          go_upto_region 20 with fail
          go_region_held3 (fun w' => w'.rangeAt w.heap.size 0 cs ∧ w'.cell? ⟨bl, q * 2, none⟩ = some (.int .i64 x) ∧ w'.cell? ⟨bl, q * 2 + 1, none⟩ = some (.int .i64 x) ∧ w'.cell? ⟨go, q, none⟩ = some (.int .i64 x) ∧ Below wr.heap.size wr w')
            (first | exact ⟨hra, c0, c1, q0, Below.refl _ _⟩ | exact ⟨hra, c0, c1, q0, (Below.refl _ _).drew⟩ | assumption)
            (first | (go_at_call 30; (with_reducible refine (HHI.out _).mono ?_); rintro e w7 ⟨rfl, hb7⟩; have hk7 := keep4 hgl hbl hol (by assumption) hb7; clear hb7))
          all_goals
            rename_i hHeld
            have HB8 := Hf.mk (hk7.2.2.2.2)
            go_wp2
            go_roundw
            case rel => exact ⟨q + 1, by omega, by go_num, ⟨HB6.out.trans (HB8.out.mono HB6.out.size)⟩⟩
            case measure => simp [intOf]; omega
        · obtain rfl : q = c := by omega
          generalize hw6 : wr = w6 at HB6 ⊢
          clear hw6
          go_wp2
          go_loopw [19] (fun i wr => ∃ t : Nat, q ≤ t ∧ t ≤ k ∧ i = .int .i64 t ∧ Hf (Below w4.heap.size w4 wr)) (fun i _ => k - (intOf i).toNat)
          case atStart => exact ⟨q, by omega, by omega, rfl, HB6⟩
          case round =>
            obtain ⟨t, ht, ht2, rfl, HB7⟩ := hrel
            by_cases hgt : t < k
            · have hgt2 : (t : Int) < (k : Int) := by omega
              obtain ⟨_, _, e9, hol, hcell⟩ := (HRO4.out.below HB7.out).form (by rw [HOL.out]; omega)
              cases e9
              have q0 := hcell t (by rw [HOL.out]; omega)
              rw [Nat.zero_add] at q0
              have HHI := Hf.mk (fun u => HHM.out (O.getD t 0) u)
              rw [decide_eq_false (HOUT.out t ht hgt)] at HHI
              generalize O.getD t 0 = x at q0 HHI
              have hra := range_heap (kept_heap H5.out HB7.out)
              have hgl : w.heap.size < wr.heap.size := Nat.lt_of_lt_of_le HGL.out HB7.out.size
              have hcok : (t : Int) < (co : Int) := by omega
              clear hcell
              go_upto_region 25 with fail
              refine wp_region_held_drew (S := fun w' => w'.rangeAt w.heap.size 0 cs ∧ w'.cell? ⟨go, t, none⟩ = some (.int .i64 x) ∧ Below wr.heap.size wr w') (by kernel_rfl) ⟨hra, q0, (Below.refl _ _).drew⟩ (fun hHeld => ?_)
              refine wpAnyH_take (i := 0) rfl (by kernel_rfl) (by kernel_rfl) (by kernel_rfl) (fun _ _ _ h => h) (yieldsIf_load_mid (by rfl) _ _ rfl _ _ rfl cs _ (fun u hu => hu.1) hu23 rfl hcl) hHeld ?_
              (try simp only [Act.put, List.setIfInBounds_toArray, List.set_cons_zero, List.set_cons_succ])
              refine wpAnyH_take (i := 1) rfl (by kernel_rfl) (by kernel_rfl) (by kernel_rfl) (fun _ _ _ h => h) (Or.inl ⟨by rfl, (by intro u hSw; obtain ⟨_, hS1, _⟩ := hSw; go_simp; first | done | (with_reducible rfl))⟩) hHeld ?_
              (try simp only [Act.put, List.setIfInBounds_toArray, List.set_cons_zero, List.set_cons_succ])
              refine wpAnyH_take (i := 2) rfl (by kernel_rfl) (by kernel_rfl) (by kernel_rfl) (fun _ _ _ h => h) (Or.inl ⟨by rfl, (by intro u hSw; obtain ⟨_, hS1, _⟩ := hSw; go_simp; first | done | (with_reducible rfl))⟩) hHeld ?_
              (try simp only [Act.put, List.setIfInBounds_toArray, List.set_cons_zero, List.set_cons_succ])
              refine wpAnyH_take (i := 3) rfl (by kernel_rfl) (by kernel_rfl) (by kernel_rfl) (fun _ _ _ h => h) (Or.inl ⟨by rfl, (by intro u hSw; obtain ⟨_, hS1, _⟩ := hSw; go_simp; first | done | (with_reducible rfl))⟩) hHeld ?_
              (try simp only [Act.put, List.setIfInBounds_toArray, List.set_cons_zero, List.set_cons_succ])
              refine wpAnyH_take (i := 4) rfl (by kernel_rfl) (by kernel_rfl) (by kernel_rfl) (fun _ _ _ h => h) (Or.inl ⟨by rfl, (by intro u hSw; obtain ⟨_, hS1, _⟩ := hSw; go_simp; first | done | (with_reducible rfl))⟩) hHeld ?_
              (try simp only [Act.put, List.setIfInBounds_toArray, List.set_cons_zero, List.set_cons_succ])
              refine wpAnyH_take (i := 5) rfl (by kernel_rfl) (by kernel_rfl) (by kernel_rfl) (fun _ _ _ h => h) (Or.inl ⟨by rfl, (by intro u hSw; obtain ⟨_, hS1, _⟩ := hSw; go_simp; first | done | (with_reducible rfl))⟩) hHeld ?_
              (try simp only [Act.put, List.setIfInBounds_toArray, List.set_cons_zero, List.set_cons_succ])
              refine wpAnyH_take (i := 6) rfl (by kernel_rfl) (by kernel_rfl) (by kernel_rfl) (fun _ _ _ h => h) (Or.inl ⟨by rfl, (by intro u hSw; obtain ⟨_, hS1, _⟩ := hSw; go_simp; first | done | (with_reducible rfl))⟩) hHeld ?_
              (try simp only [Act.put, List.setIfInBounds_toArray, List.set_cons_zero, List.set_cons_succ])
              refine wpAnyH_ready (rs := [7]) (by kernel_rfl) (by simp) ?_
              refine AllReadyH.cons rfl (fun K hK => ?_) AllReadyH.nil
              go_simp
              go_at_call 30
              (with_reducible refine (HHI.out _).mono ?_)
              rintro e w7 ⟨rfl, hb7⟩
              have hk7 := keep3 hgl hol hHeld hb7
              clear hb7 hHeld
              refine hK.out _ _ hk7 (fun hHeld => ?_)
              clear hK K
              (try simp only [Act.put, List.setIfInBounds_toArray, List.set_cons_zero, List.set_cons_succ])
              refine wpAnyH_done (by kernel_rfl) ?_ _
              have HB8 := Hf.mk (hk7.2.2)
              clear hk7 hHeld
              go_wp2
              go_roundw
              case rel => exact ⟨t + 1, by omega, by omega, by go_num, ⟨HB7.out.trans (HB8.out.mono HB7.out.size)⟩⟩
              case measure => simp [intOf]; omega
            · obtain rfl : t = k := by omega
              generalize hw7 : wr = w7 at HB7 ⊢
              clear hw7
              go_wp2
              go_loopw [20] (fun i wr => ∃ z : Nat, z ≤ SB.length ∧ i = .int .i64 z ∧ Hf (Below w4.heap.size w4 wr)) (fun i _ => SB.length - (intOf i).toNat)
              case atStart => exact ⟨0, by omega, rfl, HB7⟩
              case round =>
                obtain ⟨z, hz, rfl, HB9⟩ := hrel
                by_cases hgz : z < SB.length
                · have hgz2 : (z : Int) < (SB.length : Int) := by omega
                  obtain ⟨b4, rfl, _, c0, c1⟩ := (HRT.out.below HB9.out) z hgz
                  obtain ⟨m1, m2⟩ := HBM.out z hgz
                  obtain ⟨_, _, e9, _, hcell⟩ := (HRO4.out.below HB9.out).form (by rw [HOL.out]; omega)
                  cases e9
                  generalize (SB.getD z (0, 0)).1 = x at c0 m1 m2
                  generalize (SB.getD z (0, 0)).2 = y at c1 m1 m2
                  by_cases hyg : y = (g : Int)
                  · obtain ⟨hck, hxo⟩ := m2 hyg
                    have q0 := hcell q (by rw [HOL.out]; omega)
                    rw [Nat.zero_add, ← hxo] at q0
                    subst hyg
                    have f1 : ((q : Int) == (t : Int)) = false := beq_eq_false_iff_ne.2 (by omega)
                    have hqk : (q : Int) < (t : Int) := by omega
                    clear m1 m2 hcell hxo
                    go_wp2_with go_quiet (fail)
                    go_roundw
                    case rel => exact ⟨z + 1, by omega, by go_num, ⟨below_drewN HB9.out _⟩⟩
                    case measure => simp [intOf]; omega
                  · have hxy := m1 hyg
                    subst hxy
                    have f1 : (x == (g : Int)) = false := beq_eq_false_iff_ne.2 hyg
                    have f2 : (x != (g : Int)) = true := by simp [bne, f1]
                    clear m1 m2 hcell
                    go_wp2_with go_quiet (fail)
                    go_roundw
                    case rel => exact ⟨z + 1, by omega, by go_num, ⟨below_drewN HB9.out _⟩⟩
                    case measure => simp [intOf]; omega
                · obtain rfl : z = SB.length := by omega
                  go_wp2
                  go_ret
                  exact ⟨rfl, below_step HW4.out HB9.out⟩
theorem rankHomes_walk (id : List Nat) (nodes copies gone : Int) (W : World) (hl : id.length = 32) (hb : ∀ c ∈ id, c < 256) (_ : (Lit.int .i64 nodes).wf = true) (_ : (Lit.int .i64 copies).wf = true) (_ : (Lit.int .i64 gone).wf = true) :
    Calls Try.prog 9 #[.agg (cellsOf id).toArray, .int .i64 nodes, .int .i64 copies, .int .i64 gone] W fun e w' => e = .returned (.bool true) ∧ Below W.heap.size W w' := homes17 id nodes copies gone W hl hb
end Go.Proofs.Ytaaepadhapfkoaa
