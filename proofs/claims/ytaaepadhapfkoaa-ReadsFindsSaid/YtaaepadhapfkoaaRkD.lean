/-
  Rank: who gets a blob.
-/
import Derived.Test.YtaaepadhapfkoaaRkH
import Derived.Test.YtaaepadhapfkoaaRkJ
namespace Go.Proofs.Ytaaepadhapfkoaa
set_option linter.unusedSimpArgs false
set_option linter.unusedVariables false
open Go.RowKit

/-- the spots, home by home -/
def placeL (live : List Int) : List Int → List Int → List (Int × Int)
  | [], _ => []
  | h :: hs, os => if h ∈ live then (h, h) :: placeL live hs os else match os with
    | [] => placeL live hs []
    | o :: os => (o, h) :: placeL live hs os
theorem placeL_in {live hs os : List Int} {h : Int} (hin : h ∈ live) : placeL live (h :: hs) os = (h, h) :: placeL live hs os := by
  rw [placeL.eq_def]
  simp [hin]
theorem placeL_nil {live hs : List Int} {h : Int} (hin : ¬ h ∈ live) : placeL live (h :: hs) [] = placeL live hs [] := by
  rw [placeL.eq_def]
  simp [hin]
theorem placeL_cons {live hs os : List Int} {h o : Int} (hin : ¬ h ∈ live) : placeL live (h :: hs) (o :: os) = (o, h) :: placeL live hs os := by
  rw [placeL.eq_def]
  simp [hin]
def placeS (id : List Nat) (n c : Nat) (live : List Int) : List (Int × Int) := placeL live ((ordI id n).take c) (liveOf ((ordI id n).drop c) live)
def flatS (l : List (Int × Int)) : List Value := l.flatMap fun x => [.int .i64 x.1, .int .i64 x.2]
theorem flatS_snoc (l : List (Int × Int)) (x : Int × Int) : flatS (l ++ [x]) = flatS l ++ [.int .i64 x.1, .int .i64 x.2] := by simp [flatS]
theorem flatS_len (l : List (Int × Int)) : (flatS l).length = l.length * 2 := by
  induction l with
  | nil => rfl
  | cons x l ih => rw [flatS, List.flatMap_cons, List.length_append]; show 2 + (flatS l).length = _; rw [ih, List.length_cons]; omega
theorem info52 : (Try.prog.info? 52).map (fun i => (i.zero, i.size, i.bytes)) = some (some (.agg #[.int .i64 0, .int .i64 0]), 2, 16) := by kernel_rfl
theorem drop_getI {l : List Int} {k : Nat} (h : k < l.length) : l.drop k = l.getD k 0 :: l.drop (k + 1) := by
  rw [List.drop_eq_getElem_cons h, List.getD_eq_getElem?_getD, List.getElem?_eq_getElem h]
  rfl
theorem rdI_ownZ {w : World} {base n : Nat} {v : Value} {l : List Int} (hn : n = l.length) (h : w.ownsRow base 3 1 v n (intsZ l)) : ∃ A c, v = .slice A l.length c ∧ RdI w A l ∧ l.length ≤ c := by
  subst hn
  rcases h.2 with ⟨rfl, h0⟩ | ⟨g, cap, cur, rfl, _, hh, hc, _, _, ht⟩
  · obtain rfl := List.eq_nil_of_length_eq_zero h0
    exact ⟨none, 0, rfl, RdI.nil _ _, Nat.le_refl _⟩
  · refine ⟨_, cap, rfl, fun i hi => ⟨g, 0, rfl, (Array.getElem?_eq_some_iff.1 hh).1, ?_⟩, hc⟩
    rw [Go.Joins.cell_of_block hh, Nat.zero_add]
    have h1 : (cur.toList.take (l.length * 1))[i]? = (intsZ l)[i]? := by rw [ht]
    rw [List.getElem?_take, if_pos (by omega), Array.getElem?_toList] at h1
    rw [h1]
    simp [intsZ, List.getD, hi]
theorem collect_at {w : World} {A1 A2 : Option Addr} {c1 c2 : Nat} {l1 l2 : List Int} (r1 : RdI w A1 l1) (r2 : RdI w A2 l2) (hl1 : l1.length ≤ 1000) (hl2 : l2.length ≤ 9223372036854775807) :
    Calls Try.prog 64 #[.func (.func 101) #[] #[.pointer (some ⟨w.heap.size, 0, none⟩), .pointer (some ⟨w.heap.size + 1, 0, none⟩)]] ((w.alloc (.cells #[.slice A1 l1.length c1] 34)).alloc (.cells #[.slice A2 l2.length c2] 34)) fun e w' => ∃ v, e = .returned v ∧ w'.ownsRow w.heap.size 3 1 v (liveOf l1 l2).length (intsZ (liveOf l1 l2)) ∧ Below w.heap.size w w' := by
  have hb : Below w.heap.size w ((w.alloc (.cells #[.slice A1 l1.length c1] 34)).alloc (.cells #[.slice A2 l2.length c2] 34)) := ((Below.refl _ _).alloc (Nat.le_refl _) _).alloc (by simp) _
  have e1 := (Below.heap_alloc (w.alloc (.cells #[.slice A1 l1.length c1] 34)) (.cells #[.slice A2 l2.length c2] 34) w.heap.size (by simp)).trans (heap_alloc_new w (.cells #[.slice A1 l1.length c1] 34))
  have e2 := heap_alloc_new (w.alloc (.cells #[.slice A1 l1.length c1] 34)) (.cells #[.slice A2 l2.length c2] 34)
  rw [World.size_alloc] at e2
  have hsz : ((w.alloc (.cells #[.slice A1 l1.length c1] 34)).alloc (.cells #[.slice A2 l2.length c2] 34)).heap.size = w.heap.size + 2 := by simp
  generalize (w.alloc (.cells #[.slice A1 l1.length c1] 34)).alloc (.cells #[.slice A2 l2.length c2] 34) = V at *
  refine (collect_any w.heap.size (w.heap.size + 1) c1 c2 A1 A2 l1 l2 V (by omega) (by omega) (r1.below hb) (r2.below hb) hl1 hl2 (Go.Joins.cell_of_block e1 0) (Go.Joins.cell_of_block e2 0)).mono fun e w' h => ?_
  obtain ⟨v, he, ho, hb'⟩ := h
  exact ⟨v, he, Go.Joins.ownsRow_le ho hb.size, below_step hb hb'⟩
set_option maxRecDepth 100000 in
theorem place_bad (id : List Nat) (n c : Int) (A : Option Addr) (m k : Nat) (w : World) (hl : id.length = 32) (hn : ¬ (1 ≤ n ∧ n ≤ 64 ∧ 1 ≤ c ∧ c ≤ n)) :
    Calls Try.prog 26 #[.agg (cellsOf id).toArray, .int .i64 n, .int .i64 c, .slice A m k] w fun e w' => e = .returned (.tuple #[.slice none 0 0, .int .i64 2]) ∧ Below w.heap.size w w' := by
  generalize (cellsOf id).toArray = zs
  have HB : Hf (Below w.heap.size w (w.alloc (.cells zs 23))) := ⟨(Below.refl _ _).alloc (Nat.le_refl _) _⟩
  have HF := Hf.mk (fun u => fine_any n c u)
  rw [decide_eq_false hn] at HF
  clear hn
  go_enter Try.func26, Try.ntmps26
  go_wp2_with (go_at_call 63; refine (HF.out _).mono ?_; rintro e w' ⟨rfl, rfl⟩)
  go_ret2
  exact ⟨rfl, HB.out⟩
set_option maxHeartbeats 2000000 in
set_option maxRecDepth 100000 in
theorem place_any (id : List Nat) (n c : Nat) (live : List Int) (A : Option Addr) (lc : Nat) (w : World) (hl : id.length = 32) (hb : ∀ c ∈ id, c < 256) (hn : 1 ≤ n) (hn2 : n ≤ 64) (hc : 1 ≤ c) (hc2 : c ≤ n) (hr : RdI w A live) (hll : live.length ≤ 9223372036854775807) :
    Calls Try.prog 26 #[.agg (cellsOf id).toArray, .int .i64 n, .int .i64 c, .slice A live.length lc] w fun e w' => ∃ v, e = .returned (.tuple #[v, .int .i64 0]) ∧ w'.ownsRow w.heap.size 52 2 v (placeS id n c live).length (flatS (placeS id n c live)) ∧ Below w.heap.size w w' := by
  have HF := Hf.mk (fun u => fine_any (n : Int) (c : Int) u)
  rw [decide_eq_true (show (1 : Int) ≤ n ∧ (n : Int) ≤ 64 ∧ (1 : Int) ≤ c ∧ (c : Int) ≤ n from ⟨by omega, by omega, by omega, by omega⟩)] at HF
  have HO := Hf.mk (fun u => ordered_any id n u hl hb hn hn2)
  have hz : (cellsOf id).toArray.size = 32 := by rw [List.size_toArray, cellsOf_length, hl]
  have h1 := heap_alloc_new w (.cells (cellsOf id).toArray 23)
  have HB : Hf (Below w.heap.size w (w.alloc (.cells (cellsOf id).toArray 23))) := ⟨(Below.refl _ _).alloc (Nat.le_refl _) _⟩
  have HR := Hf.mk (hr.below HB.out)
  have HRW := Hf.mk hr
  generalize (cellsOf id).toArray = zs at *
  have H1 := Hf.mk h1
  have HZ := Hf.mk hz
  have hc2' : (c : Int) ≤ (n : Int) := by omega
  have HLL := Hf.mk hll
  clear h1 hz hl hb hr hll
  have HCP : Hf (∀ (u : World) (base g cap : Nat) (xs : List Value), u.ownsRow base 3 1 (.slice (some ⟨g, 0, none⟩) n cap) n xs → n ≤ cap) := ⟨fun u base g cap xs h => by
    rcases h.2 with ⟨h0, _⟩ | ⟨g', cap', cur, hv, _, _, hh, _⟩
    · cases h0
    · cases hv; exact hh⟩
  go_enter Try.func26, Try.ntmps26
  go_upto_region 1 with fail
  generalize w.alloc (.cells zs 23) = W at *
  go_upto_region 4 with (first
    | (go_at_call 63; (with_reducible refine (HF.out _).mono ?_); rintro e w' ⟨rfl, rfl⟩)
    | (with_reducible refine wpList_load_row rfl 23 _ rfl w.heap.size rfl 23 zs (0, 0) _ H1.out Try.underlying23 rfl (size23.trans (by rw [HZ.out])) ?_)
    | (go_at_call 24; (with_reducible refine (HO.out _).mono ?_); rintro e w1 ⟨g, cap, rfl, hown, hb1⟩; have HB1 := Hf.mk hb1; have HOW := Hf.mk hown; have hcap := HCP.out _ _ _ _ _ hown; clear hb1 hown))
  have hcap2 : (c : Int) ≤ (cap : Int) := by omega
  have hcap3 : (n : Int) ≤ (cap : Int) := by omega
  have hD : ((ordI id n).drop c).length = n - c := by rw [List.length_drop, ordI_len]
  have HCO := Hf.mk (fun (A1 : Option Addr) (k1 : Nat) (h : RdI w1 A1 ((ordI id n).drop c)) => collect_at (w := w1) (A1 := A1) (c1 := k1) (A2 := A) (c2 := lc) (l1 := (ordI id n).drop c) (l2 := live) h (HR.out.below HB1.out) (by rw [hD]; omega) HLL.out)
  rw [hD] at HCO
  have HRD1 : Hf (RdI w1 (some ⟨g, c, none⟩) ((ordI id n).drop c)) := ⟨by have := (rdI_own HOW.out).drop c; rwa [Nat.zero_add] at this⟩
  have HRD2 : Hf (n ≤ c → ∀ A1, RdI w1 A1 ((ordI id n).drop c)) := ⟨fun h A1 => by rw [List.drop_eq_nil_of_le (by rw [ordI_len]; exact h)]; exact RdI.nil _ _⟩
  have HBW := Hf.mk (below_step HB.out HB1.out)
  obtain ⟨os, hos⟩ : ∃ os, liveOf ((ordI id n).drop c) live = os := ⟨_, rfl⟩
  rw [hos] at HCO
  have HOS := Hf.mk hos
  clear hos hD
  go_cut [12] from 26 to 31 (fun v12 wx => ∃ A' c', v12 = .slice A' os.length c' ∧ Hf (RdI wx A' os) ∧ os.length ≤ c' ∧ Hf (Below w.heap.size w wx) ∧ (∃ B0, Hf (wx.ownsRow B0 3 1 (.slice (some ⟨g, 0, none⟩) n cap) n (intsN (ordL id n)))))
  case first =>
    go_wp2_with (first
      | (go_at_call 65; (with_reducible refine (standing_any _ _ _ _ _ _ _).mono ?_); rintro e w' ⟨rfl, rfl⟩)
      | (go_at_call 64; (first | (with_reducible refine (HCO.out (some ⟨g, c, none⟩) (cap - c) HRD1.out).mono ?_) | (with_reducible refine (HCO.out (some ⟨g, 0, none⟩) 0 (HRD2.out (by omega) _)).mono ?_)); rintro e w3 ⟨v, rfl, hown3, hb3⟩; have HB3 := Hf.mk hb3; have HO3 := Hf.mk hown3; clear hb3 hown3))
    all_goals
      obtain ⟨A', c', rfl, hr', hc'⟩ := rdI_ownZ rfl HO3.out
      try (have hce : cap = c := (by assumption); subst hce)
      go_meet
      case rel => exact ⟨A', c', rfl, ⟨hr'⟩, hc', ⟨below_step HBW.out HB3.out⟩, ⟨_, ⟨owns_below HOW.out HB3.out⟩⟩⟩
  case rest =>
    obtain ⟨A', c', rfl, HR3, hc3, HB3, B0, HO3⟩ := hcut
    have HRO := Hf.mk (rdI_own HO3.out)
    have hwc : Hf (RdI wc A live) := ⟨HRW.out.below HB3.out⟩
    go_wp2
    go_loopw [12, 13, 36] (fun v12 v13 i wr => ∃ (k : Nat) (os' : List Int) (S : List (Int × Int)) (A' : Option Addr) (c' : Nat), k ≤ c ∧ i = .int .i64 k ∧ v12 = .slice A' os'.length c' ∧ Hf (RdI wc A' os') ∧ os'.length ≤ c' ∧ Hf (wr.ownsRow wc.heap.size 52 2 v13 S.length (flatS S)) ∧ S.length ≤ k ∧ Hf (placeS id n c live = S ++ placeL live (((ordI id n).take c).drop k) os') ∧ Hf (Below wc.heap.size wc wr) ∧ os'.length ≤ 1000) (fun _ _ i _ => c - (intOf i).toNat)
    case atStart => exact ⟨0, os, [], A', c', by omega, rfl, rfl, HR3, hc3, ⟨World.ownsRow_nil _ _ _ _⟩, Nat.le_refl _, ⟨by unfold placeS; rw [HOS.out]; rfl⟩, ⟨Below.refl _ _⟩, by rw [← HOS.out]; exact Nat.le_trans (List.length_filter_le _ _) (by rw [List.length_drop, ordI_len]; omega)⟩
    case round =>
      obtain ⟨k, os', S, A', c', hk, rfl, rfl, HR4, hc4, HO4, hS, HP, HB4, hos4⟩ := hrel
      by_cases hgo : k < c
      · have hgo2 : (k : Int) < (c : Int) := by omega
        obtain ⟨_, _, q, _, hcell⟩ := (HRO.out.below HB4.out).form (by rw [List.length_map, ordL_len]; omega)
        cases q
        have q0 := hcell k (by rw [List.length_map, ordL_len]; omega)
        rw [Nat.zero_add] at q0
        have hdr := drop_getI (l := (ordI id n).take c) (k := k) (by rw [List.length_take, ordI_len]; omega)
        rw [getD_takeI hgo] at hdr
        obtain ⟨x, hx⟩ : ∃ x, (ordI id n).getD k 0 = x := ⟨_, rfl⟩
        change wr.cell? ⟨g, k, none⟩ = some (.int .i64 ((ordI id n).getD k 0)) at q0
        rw [hx] at q0 hdr
        have hp := HP.out
        rw [hdr] at hp
        have HCN := Hf.mk (contains_any A live lc x wr (hwc.out.below HB4.out) HLL.out)
        have HMX : Hf (S.length + 1 ≤ maxLen) := ⟨by unfold maxLen; omega⟩
        obtain ⟨i1, hi1, hz10, hz11, hz12⟩ := info_parts info52
        clear hcell hx hdr HP
        by_cases hin : x ∈ live
        · have hp2 : placeS id n c live = (S ++ [(x, x)]) ++ placeL live (((ordI id n).take c).drop (k + 1)) os' := by
            rw [hp, placeL_in hin, List.append_assoc]; rfl
          have HP2 := Hf.mk hp2
          rw [decide_eq_true hin] at HCN
          clear hp hp2 hin
          go_wp2_with (first
            | (go_at_call 66; (with_reducible refine HCN.out.mono ?_); rintro e w5 ⟨rfl, hw5⟩; have hw5 := hw5.symm; subst hw5)
            | (at_builtin; refine wpList_append_own _ rfl (.tmp 44) (.tmp 48) 38 rfl wc.heap.size 52 i1 (.agg #[.int .i64 0, .int .i64 0]) 2 16 Try.underlying38 hi1 hz10 hz11 hz12 rfl (by decide) _ S.length (flatS S) rfl (HO4.out.alloc _) ⟨wr.heap.size, 0, none⟩ 1 1 [.int .i64 x, .int .i64 x] rfl rfl (new_cells2 _ _ _ _) (by simp [Value.oneCell']) HMX.out (by omega) (by have := HB4.out.size; simp; omega) ?_; intro v4 w4 hown4 hgrow4 _; have HO5 := Hf.mk hown4; have HB5 := Hf.mk (below_own (HO4.out.alloc _) (Below.refl _ _) hgrow4 HB4.out.size); clear hown4 hgrow4))
          go_roundw
          case rel => exact ⟨k + 1, os', S ++ [(x, x)], A', c', by omega, by go_num, rfl, HR4, hc4, ⟨by rw [List.length_append, flatS_snoc]; exact HO5.out⟩, by rw [List.length_append]; exact Nat.add_le_add_right hS 1, HP2, ⟨HB4.out.trans HB5.out⟩, hos4⟩
          case measure => simp [intOf]; omega
        · rw [decide_eq_false hin] at HCN
          cases os' with
          | nil =>
            have hp2 : placeS id n c live = S ++ placeL live (((ordI id n).take c).drop (k + 1)) [] := by
              rw [hp, placeL_nil hin]
            have HP2 := Hf.mk hp2
            clear hp hp2 hin
            go_wp2_with (go_at_call 66; (with_reducible refine HCN.out.mono ?_); rintro e w5 ⟨rfl, hw5⟩; have hw5 := hw5.symm; subst hw5)
            go_roundw
            case rel => exact ⟨k + 1, [], S, A', c', by omega, by go_num, rfl, HR4, hc4, HO4, by omega, HP2, HB4, hos4⟩
            case measure => simp [intOf]; omega
          | cons o os' =>
            have hp2 : placeS id n c live = (S ++ [(o, x)]) ++ placeL live (((ordI id n).take c).drop (k + 1)) os' := by
              rw [hp, placeL_cons hin, List.append_assoc]; rfl
            have HP2 := Hf.mk hp2
            obtain ⟨b, off, rfl, hbb, hcb⟩ := HR4.out.form (by simp)
            have q1 := (HB4.out.cell (p := ⟨b, off + 0, none⟩) hbb).trans (hcb 0 (by simp))
            rw [Nat.add_zero] at q1
            change wr.cell? ⟨b, off, none⟩ = some (.int .i64 o) at q1
            have HR5 : Hf (RdI wc (some ⟨b, off + 1, none⟩) os') := ⟨HR4.out.drop 1⟩
            have HR6 : Hf (RdI wc (if c' = 1 then some ⟨b, off, none⟩ else some ⟨b, off + 1, none⟩) os') := ⟨by
              rw [List.length_cons] at hc4
              by_cases e : c' = 1
              · rw [show os' = [] from List.eq_nil_of_length_eq_zero (by omega)]; exact RdI.nil _ _
              · rw [if_neg e]; exact HR5.out⟩
            clear hp hp2 hin hcb HR5
            rw [List.length_cons] at hc4 hos4 ⊢
            go_wp2_with (first
              | (go_at_call 66; (with_reducible refine HCN.out.mono ?_); rintro e w5 ⟨rfl, hw5⟩; have hw5 := hw5.symm; subst hw5)
              | (at_builtin; refine wpList_append_own _ rfl (.tmp 54) (.tmp 60) 38 rfl wc.heap.size 52 i1 (.agg #[.int .i64 0, .int .i64 0]) 2 16 Try.underlying38 hi1 hz10 hz11 hz12 rfl (by decide) _ S.length (flatS S) rfl (HO4.out.alloc _) ⟨wr.heap.size, 0, none⟩ 1 1 [.int .i64 o, .int .i64 x] rfl rfl (new_cells2 _ _ _ _) (by simp [Value.oneCell']) HMX.out (by omega) (by have := HB4.out.size; simp; omega) ?_; intro v4 w4 hown4 hgrow4 _; have HO5 := Hf.mk hown4; have HB5 := Hf.mk (below_own (HO4.out.alloc _) (Below.refl _ _) hgrow4 HB4.out.size); clear hown4 hgrow4))
            go_roundw
            case rel => exact ⟨k + 1, os', S ++ [(o, x)], _, c' - 1, by omega, by go_num, rfl, HR6, by omega, ⟨by rw [List.length_append, flatS_snoc]; exact HO5.out⟩, by rw [List.length_append]; exact Nat.add_le_add_right hS 1, HP2, ⟨HB4.out.trans HB5.out⟩, by omega⟩
            case measure => simp [intOf]; omega
      · obtain rfl : k = c := by omega
        have hp := HP.out
        rw [List.drop_eq_nil_of_le (by rw [List.length_take]; omega)] at hp
        have hp2 : placeS id n k live = S := by rw [hp]; exact List.append_nil _
        have HP2 := Hf.mk hp2
        clear hp hp2 HP
        go_wp2
        go_ret2
        exact ⟨_, rfl, by rw [HP2.out]; exact Go.Joins.ownsRow_le HO4.out HB3.out.size, below_step HB3.out HB4.out⟩
end Go.Proofs.Ytaaepadhapfkoaa
