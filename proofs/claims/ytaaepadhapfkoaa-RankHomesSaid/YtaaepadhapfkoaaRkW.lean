/-
  Rank: awake, and the chapter's examples.
-/
import Derived.Test.YtaaepadhapfkoaaRkK
import Derived.Test.YtaaepadhapfkoaaDgV
namespace Go.Proofs.Ytaaepadhapfkoaa
set_option linter.unusedSimpArgs false
set_option linter.unusedVariables false
open Go.RowKit

/-- the id of zeros -/
def zid : List Nat := List.replicate 32 0
theorem zid_len : zid.length = 32 := rfl
theorem zid_lt : ∀ c ∈ zid, c < 256 := by
  intro c hc
  have := List.eq_of_mem_replicate hc
  omega
theorem ordI_one (id : List Nat) : ordI id 1 = [1] := by
  have h : (ordL id 1).Perm [1] := ordL_perm id 1
  unfold ordI
  rw [List.perm_singleton.1 h]
  rfl
theorem place_one (id : List Nat) : placeS id 1 1 [1] = [(1, 1)] := by
  unfold placeS
  rw [ordI_one]
  rfl
theorem place_none (id : List Nat) : placeS id 1 1 [] = [] := by
  unfold placeS
  rw [ordI_one]
  rfl
theorem rdI_one (w : World) (x : Int) : RdI (w.alloc (.cells #[.int .i64 x] 3)) (some ⟨w.heap.size, 0, none⟩) [x] := fun i hi => by
  have : i = 0 := by simpa using hi
  subst this
  exact ⟨_, _, rfl, by simp, by rw [Go.Joins.cell_of_block (heap_alloc_new _ _)]; rfl⟩
theorem rdS_one (w : World) (x y : Int) : RdS (w.alloc (.cells #[.int .i64 x, .int .i64 y] 52)) (some ⟨w.heap.size, 0, none⟩) [(x, y)] := fun i hi => by
  have : i = 0 := by simpa using hi
  subst this
  exact ⟨_, rfl, by simp, by rw [Go.Joins.cell_of_block (heap_alloc_new _ _)]; rfl, by rw [Go.Joins.cell_of_block (heap_alloc_new _ _)]; rfl⟩
theorem zid_cells : (#[Value.int IntKind.u8 0, Value.int IntKind.u8 0, Value.int IntKind.u8 0, Value.int IntKind.u8 0, Value.int IntKind.u8 0, Value.int IntKind.u8 0, Value.int IntKind.u8 0, Value.int IntKind.u8 0, Value.int IntKind.u8 0, Value.int IntKind.u8 0, Value.int IntKind.u8 0, Value.int IntKind.u8 0, Value.int IntKind.u8 0, Value.int IntKind.u8 0, Value.int IntKind.u8 0, Value.int IntKind.u8 0, Value.int IntKind.u8 0, Value.int IntKind.u8 0, Value.int IntKind.u8 0, Value.int IntKind.u8 0, Value.int IntKind.u8 0, Value.int IntKind.u8 0, Value.int IntKind.u8 0, Value.int IntKind.u8 0, Value.int IntKind.u8 0, Value.int IntKind.u8 0, Value.int IntKind.u8 0, Value.int IntKind.u8 0, Value.int IntKind.u8 0, Value.int IntKind.u8 0, Value.int IntKind.u8 0, Value.int IntKind.u8 0] : Array Value) = (cellsOf zid).toArray := rfl
theorem kept_heap {W W' : World} {g : Nat} {o : Obj} (h : W.heap[g]? = some o) (hb : Below W.heap.size W W') : W'.heap[g]? = some o :=
  (hb.block _ (Array.getElem?_eq_some_iff.1 h).1).trans h
set_option maxHeartbeats 2000000 in
set_option maxRecDepth 100000 in
theorem awake17 (w : World) : Calls Try.prog 22 #[] w fun e w' => e = .returned (.bool true) ∧ Below w.heap.size w w' := by
  have HPL : Hf (∀ (u : World) (A : Option Addr), RdI u A [1] → Calls Try.prog 26 #[.agg (cellsOf zid).toArray, .int .i64 1, .int .i64 1, .slice A 1 1] u fun e w' => ∃ A' c', e = .returned (.tuple #[.slice A' 1 c', .int .i64 0]) ∧ RdS w' A' [(1, 1)] ∧ Below u.heap.size u w') := ⟨fun u A h => by
    have h1 := place_any zid 1 1 [1] A 1 u zid_len zid_lt (by decide) (by decide) (by decide) (by decide) h (by decide)
    rw [place_one] at h1
    refine h1.mono fun e w' h2 => ?_
    obtain ⟨v, he, ho, hb⟩ := h2
    obtain ⟨A', c', rfl, hr, _⟩ := rdS_own rfl ho
    exact ⟨A', c', he, hr, hb⟩⟩
  have HLO : Hf (∀ u : World, Calls Try.prog 34 #[.agg (cellsOf zid).toArray, .int .i64 1] u fun e w' => ∃ g cap, e = .returned (.slice (some ⟨g, 0, none⟩) 1 cap) ∧ RdI w' (some ⟨g, 0, none⟩) [1] ∧ Below u.heap.size u w') := ⟨fun u => by
    have h1 := law_order zid 1 u zid_len zid_lt (by decide) (by decide)
    rw [ordI_one] at h1
    refine h1.mono fun e w' h2 => ?_
    obtain ⟨g, cap, he, hr, _, hb⟩ := h2
    exact ⟨g, cap, he, hr, hb⟩⟩
  have HBAD := Hf.mk (fun u => law_order_bad zid 65 u zid_len (by decide))
  have HSI : Hf (∀ (u : World) (a b : Option Addr) (c d : Nat), RdI u a [1] → RdI u b [1] → Calls Try.prog 28 #[.slice a 1 c, .slice b 1 d] u fun e w' => e = .returned (.bool true) ∧ Below u.heap.size u w') := ⟨fun u a b c d h1 h2 => same_ints a b c d [1] u h1 h2 (by decide)⟩
  have HSS : Hf (∀ (u : World) (a b : Option Addr) (c d : Nat), RdS u a [(1, 1)] → RdS u b [(1, 1)] → Calls Try.prog 29 #[.slice a 1 c, .slice b 1 d] u fun e w' => e = .returned (.bool true) ∧ Below u.heap.size u w') := ⟨fun u a b c d h1 h2 => same_spots a b c d [(1, 1)] u h1 h2 (by decide)⟩
  have hz : (cellsOf zid).toArray.size = 32 := rfl
  have h1 := heap_alloc_new w (.cells (cellsOf zid).toArray 23)
  have hb0 : Below w.heap.size w (w.alloc (.cells (cellsOf zid).toArray 23)) := (Below.refl _ _).alloc (Nat.le_refl _) _
  go_enter Try.func22, Try.ntmps22
  go_upto_region 2 with fail
  rw [zid_cells]
  generalize (cellsOf zid).toArray = za at *
  have H1 := Hf.mk h1
  have HZ := Hf.mk hz
  have HB0 := Hf.mk hb0
  clear h1 hz hb0
  generalize w.alloc (.cells za 23) = W at *
  have HR1 := Hf.mk (rdI_one W 1)
  go_upto_region 3 with (first
    | (refine wpList_load_rowW rfl 23 (.tmp 1) rfl _ rfl 23 za (0, 0) _ H1.out Try.underlying23 rfl (size23.trans (by rw [HZ.out])) ?_)
    | (go_at_call 26; (with_reducible refine (HPL.out _ _ HR1.out).mono ?_); rintro e w1 ⟨A1, c1, rfl, hr, hb1⟩; have HS1 := Hf.mk hr; have HB1 := Hf.mk (below_step ((Below.refl W.heap.size W).alloc (Nat.le_refl _) _) hb1); clear hr hb1))
  have H2 := Hf.mk (kept_heap H1.out HB1.out)
  have tok1 : True := trivial
  go_wp2_with (first
    | (refine wpList_load_rowW rfl 23 (.tmp 1) rfl _ rfl 23 za (0, 0) _ H2.out Try.underlying23 rfl (size23.trans (by rw [HZ.out])) ?_)
    | (go_at_call 34; have _t := tok1; (with_reducible refine (HLO.out _).mono ?_); rintro e w2 ⟨g, cap, rfl, hr, hb2⟩; have HI2 := Hf.mk (hr.below ((Below.refl _ _).alloc (Nat.le_refl _) (.cells #[Value.int .i64 1] 3))); have HR2 := Hf.mk (rdI_one w2 1); have HB2 := Hf.mk (below_step hb2 ((Below.refl _ _).alloc (Nat.le_refl _) (.cells #[Value.int .i64 1] 3))); clear hr hb2 tok1)
    | (go_at_call 28; (with_reducible refine (HSI.out _ _ _ _ _ HI2.out HR2.out).mono ?_); rintro e w3 ⟨rfl, hb3⟩; have HB3 := Hf.mk (below_step (below_step HB2.out hb3) ((Below.refl _ _).alloc (Nat.le_refl _) (.cells #[Value.int .i64 1, Value.int .i64 1] 52))); have HS3 := Hf.mk (HS1.out.below HB3.out); have HR3 := Hf.mk (rdS_one w3 1 1); clear hb3)
    | (go_at_call 29; (with_reducible refine (HSS.out _ _ _ _ _ HS3.out HR3.out).mono ?_); rintro e w4 ⟨rfl, hb4⟩; have HB4 := Hf.mk (below_step HB3.out hb4); have H4 := Hf.mk (kept_heap H2.out HB4.out); clear hb4)
    | (refine wpList_load_rowW rfl 23 (.tmp 1) rfl _ rfl 23 za (0, 0) _ H4.out Try.underlying23 rfl (size23.trans (by rw [HZ.out])) ?_)
    | (go_at_call 34; (with_reducible refine (HBAD.out _).mono ?_); rintro e w5 ⟨rfl, hb5⟩; have HB5 := Hf.mk (below_step HB4.out hb5); clear hb5))
  go_ret
  exact ⟨rfl, below_step HB0.out (below_step HB1.out HB5.out)⟩
set_option maxHeartbeats 2000000 in
set_option maxRecDepth 100000 in
theorem known17 (w : World) : Calls Try.prog 6 #[] w fun e w' => e = .returned (.bool true) ∧ Below w.heap.size w w' := by
  have HP1 : Hf (∀ u : World, Calls Try.prog 26 #[.agg (cellsOf zid).toArray, .int .i64 1, .int .i64 1, .slice none 0 0] u fun e w' => ∃ A' c', e = .returned (.tuple #[.slice A' 0 c', .int .i64 0]) ∧ Below u.heap.size u w') := ⟨fun u => by
    have h1 := place_any zid 1 1 [] none 0 u zid_len zid_lt (by decide) (by decide) (by decide) (by decide) (RdI.nil _ _) (by decide)
    rw [place_none] at h1
    refine h1.mono fun e w' h2 => ?_
    obtain ⟨v, he, ho, hb⟩ := h2
    obtain ⟨A', c', rfl, hr, _⟩ := rdS_own rfl ho
    exact ⟨A', c', he, hb⟩⟩
  have HP2 := Hf.mk (fun u => place_bad zid 3 4 none 0 0 u zid_len (by decide))
  have HO1 := Hf.mk (fun u => order_bad zid 0 u (by decide))
  have HO2 := Hf.mk (fun u => order_bad zid 65 u (by decide))
  have HHM := Hf.mk (fun u => home_bad zid 3 4 1 u zid_len (by decide))
  have HAW := Hf.mk awake17
  have hz : (cellsOf zid).toArray.size = 32 := rfl
  have h1 := heap_alloc_new w (.cells (cellsOf zid).toArray 23)
  have hb0 : Below w.heap.size w (w.alloc (.cells (cellsOf zid).toArray 23)) := (Below.refl _ _).alloc (Nat.le_refl _) _
  go_enter Try.func6, Try.ntmps6
  go_upto_region 2 with fail
  rw [zid_cells]
  generalize (cellsOf zid).toArray = za at *
  have H0 := Hf.mk h1
  have HZ := Hf.mk hz
  have HB0 := Hf.mk hb0
  clear h1 hz hb0
  generalize w.alloc (.cells za 23) = W at *
  have tok1 : True := trivial
  have tok2 : True := trivial
  go_upto_region 6 with (first
    | (refine wpList_load_rowW rfl 23 (.tmp 1) rfl _ rfl 23 za (0, 0) _ H0.out Try.underlying23 rfl (size23.trans (by rw [HZ.out])) ?_)
    | (go_at_call 24; have _t := tok1; (with_reducible refine (HO1.out _).mono ?_); rintro e w1 ⟨rfl, hb⟩; clear tok1; have HB1 := Hf.mk hb; have H1 := Hf.mk (kept_heap H0.out hb); clear hb)
    | (refine wpList_load_rowW rfl 23 (.tmp 1) rfl _ rfl 23 za (0, 0) _ H1.out Try.underlying23 rfl (size23.trans (by rw [HZ.out])) ?_)
    | (go_at_call 24; (with_reducible refine (HO2.out _).mono ?_); rintro e w2 ⟨rfl, hb⟩; have HB2 := Hf.mk hb; have H2 := Hf.mk (kept_heap H1.out hb); clear hb)
    | (refine wpList_load_rowW rfl 23 (.tmp 1) rfl _ rfl 23 za (0, 0) _ H2.out Try.underlying23 rfl (size23.trans (by rw [HZ.out])) ?_)
    | (go_at_call 26; have _t := tok2; (with_reducible refine (HP2.out _).mono ?_); rintro e w3 ⟨rfl, hb⟩; clear tok2; have HB3 := Hf.mk hb; have H3 := Hf.mk (kept_heap H2.out hb); clear hb)
    | (refine wpList_load_rowW rfl 23 (.tmp 1) rfl _ rfl 23 za (0, 0) _ H3.out Try.underlying23 rfl (size23.trans (by rw [HZ.out])) ?_)
    | (go_at_call 26; (with_reducible refine (HP1.out _).mono ?_); rintro e w4 ⟨A4, c4, rfl, hb⟩; have HB4 := Hf.mk hb; have H4 := Hf.mk (kept_heap H3.out hb); clear hb))
  have HB4' := Hf.mk (below_step (below_step (below_step (below_step HB0.out HB1.out) HB2.out) HB3.out) HB4.out)
  clear H0 H1 H2 H3 HO1 HO2 HP1 HP2
  go_wp2_with (first
    | (go_at_call 22; (with_reducible refine (HAW.out _).mono ?_); rintro e w5 ⟨rfl, hb⟩; have HB5 := Hf.mk hb; have H5 := Hf.mk (kept_heap H4.out hb); clear hb)
    | (refine wpList_load_rowW rfl 23 (.tmp 1) rfl _ rfl 23 za (0, 0) _ H5.out Try.underlying23 rfl (size23.trans (by rw [HZ.out])) ?_)
    | (go_at_call 30; (with_reducible refine (HHM.out _).mono ?_); rintro e w6 ⟨rfl, hb⟩; have HB6 := Hf.mk hb; have H6 := Hf.mk (kept_heap H5.out hb); clear hb))
  go_ret
  exact ⟨rfl, below_step (below_step HB4'.out HB5.out) HB6.out⟩
theorem rankKnown_walk (W : World) : Calls Try.prog 6 #[] W fun e w' => e = .returned (.bool true) ∧ Below W.heap.size W w' := known17 W
end Go.Proofs.Ytaaepadhapfkoaa
