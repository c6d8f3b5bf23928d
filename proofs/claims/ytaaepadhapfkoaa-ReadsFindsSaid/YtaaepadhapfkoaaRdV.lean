/-
  Reads: some of the chapter's examples.
-/
import Derived.Test.YtaaepadhapfkoaaRdU
namespace Go.Proofs.Ytaaepadhapfkoaa
set_option linter.unusedSimpArgs false
set_option linter.unusedVariables false
open Go.RowKit

theorem RAt.other {w w' : World} {p q : Nat} {R S : Rdr} {a1 a2 a3 b1 b2 b3 : Option Addr} {c1 c2 c3 d1 d2 d3 : Nat} (h : RAt w p R a1 c1 a2 c2 a3 c3) (k : RAt w q S b1 d1 b2 d2 b3 d3) (hg : w.grownBy w' (some q)) (hq : q ≠ p) : RAt w' p R a1 c1 a2 c2 a3 c3 := by
  obtain ⟨cs, hc, _⟩ := k.blk
  exact h.grown hg hq hc
theorem notes_none {w : World} {base : Nat} {v : Value} {R : Rdr} (h : NotesAt w base v R []) : ∃ A c, v = .slice A 0 c := by
  obtain ⟨A, c, e, _⟩ := h.form
  exact ⟨A, c, e⟩
theorem noteV_nt {w : World} (kind frm who cn cb cc : Int) (yes : Bool) {id : List Nat} {A : Option Addr} {d : List Nat} {c : Nat} (hl : id.length = 32) (hb : ∀ x ∈ id, x < 256) (hd : Given w A c d) :
    NoteV w (nt kind frm who cn cb cc 0 yes id (.slice A d.length c)).toArray kind frm who cn cb cc yes id A d c := by
  have hg : ∀ i, _ := fun i => nt_get (kind := kind) (me := frm) (who := who) (cn := cn) (cb := cb) (cc := cc) (set := 0) (yes := yes) (id := id) (dv := .slice A d.length c) hl (i := i)
  have hc : ∀ j, (nt kind frm who cn cb cc 0 yes id (.slice A d.length c)).toArray[j]? = (nt kind frm who cn cb cc 0 yes id (.slice A d.length c))[j]? := fun j => List.getElem?_toArray
  exact { size := by rw [List.size_toArray]; exact nt_len _ _ _ _ _ _ _ _ hl _
          n0 := (hc 0).trans ((hg 0).1 (by decide)), n1 := (hc 1).trans ((hg 1).1 (by decide)), n2 := (hc 2).trans ((hg 2).1 (by decide)), n3 := (hc 3).trans ((hg 3).1 (by decide)), n4 := (hc 4).trans ((hg 4).1 (by decide)), n5 := (hc 5).trans ((hg 5).1 (by decide)), n12 := (hc 12).trans ((hg 12).1 (by decide)),
          idl := hl, idb := hb, nid := fun j hj => by rw [hc, (hg j).2.1 hj]; unfold cellsOf; rw [List.getElem?_map, List.getD_eq_getElem?_getD, List.getElem?_eq_getElem (by rw [hl]; exact hj)]; rfl,
          n45 := (hc 45).trans ((hg 0).2.2 (by decide)), dat := hd }
theorem start_two' {hs : List Int} : (rdS 0 0 hs 0 0 0).startO [1, 3] true = [(false, 2)] ∧ (rdS 0 0 hs 0 0 0).startR [1, 3] true = rdS 1 1 hs 0 0 0 := start_two (fun h => sum_ne h.2)
theorem start_yesC : (rdC 1).startO [1, 2] true = [] ∧ (rdC 1).startR [1, 2] true = (rdC 1).gets [1, 2] := start_yes rdC_one.2.2 ⟨rfl, rfl⟩
set_option maxHeartbeats 4000000 in
set_option maxRecDepth 100000 in
theorem awake_any (w : World) : Calls Try.prog 36 #[] w fun e w' => e = .returned (.bool true) ∧ Below w.heap.size w w' := by
  obtain ⟨hs, hhs, hrd⟩ := rdC_two
  have HO1 := Hf.mk (of_any 1 w (by decide) (by decide))
  have HO2 := Hf.mk (fun u => of_any 2 u (by decide) (by decide))
  rw [hrd] at HO2
  have ok2 := ok_C (n := 2) (by decide) (by decide)
  rw [hrd] at ok2
  have HSX : Hf (∀ (u : World) (p : Nat) (a1 a2 a3 : Option Addr) (c1 c2 c3 : Nat), RAt u p (rdC 1) a1 c1 a2 c2 a3 c3 → Calls Try.prog 39 #[.pointer (some ⟨p, 0, none⟩), .slice (some ⟨u.heap.size, 0, none⟩) 2 2, .bool true] (u.alloc (.cells #[.int .u8 1, .int .u8 2] 5)) (StartsAt (u.alloc (.cells #[.int .u8 1, .int .u8 2] 5)) p (rdC 1) a1 c1 a2 c2 ((rdC 1).gets [1, 2]) [] 0)) := ⟨fun u p a1 a2 a3 c1 c2 c3 h => by
    have := start_any (h.below ((Below.refl _ _).alloc (Nat.le_refl _) _)) (ok_C (by decide) (by decide)) rdC_one.2.2 _ _ [1, 2] true (given12 u) (by decide)
    rw [start_yesC.1, start_yesC.2] at this
    exact this⟩
  have HSY : Hf (∀ (u : World) (p : Nat) (a1 a2 a3 : Option Addr) (c1 c2 c3 : Nat), RAt u p (rdS 0 0 hs 0 0 0) a1 c1 a2 c2 a3 c3 → Calls Try.prog 39 #[.pointer (some ⟨p, 0, none⟩), .slice (some ⟨u.heap.size, 0, none⟩) 2 2, .bool true] (u.alloc (.cells #[.int .u8 1, .int .u8 3] 5)) (StartsAt (u.alloc (.cells #[.int .u8 1, .int .u8 3] 5)) p (rdS 0 0 hs 0 0 0) a1 c1 a2 c2 (rdS 1 1 hs 0 0 0) [(false, 2)] 0)) := ⟨fun u p a1 a2 a3 c1 c2 c3 h => by
    have := start_any (h.below ((Below.refl _ _).alloc (Nat.le_refl _) _)) ok2 rfl _ _ [1, 3] true (given13 u) (by decide)
    rw [start_two'.1, start_two'.2] at this
    exact this⟩
  have HGT := Hf.mk (fun u => gotC_any u)
  have HTK : Hf (∀ (u : World) (p : Nat) (a1 a2 a3 : Option Addr) (c1 c2 c3 : Nat) (A : Option Addr) (c : Nat), RAt u p (rdS 1 1 hs 0 0 0) a1 c1 a2 c2 a3 c3 → Given u A c [1, 2] → Calls Try.prog 41 #[.pointer (some ⟨p, 0, none⟩), .agg (nt 8 2 1 1 1 1 0 true (Sha.sum [1, 2]) (.slice A 2 c)).toArray] u (SendsAt u p ((rdS 1 1 hs 0 0 0).gets [1, 2]) a1 c1 a2 c2 ((rdS 1 1 hs 0 0 0).gets [1, 2]) [])) := ⟨fun u p a1 a2 a3 c1 c2 c3 A c h hg => by
    have := take_any h (ok_S hhs (by decide)) (noteV_nt 8 2 1 1 1 1 true (Sha.sum_len [1, 2]) (Sha.sum_lt _) hg) (by decide)
    rw [mine_C, (takeC_yes hhs).1, (takeC_yes hhs).2] at this
    exact this⟩
  have HGX : Hf (((rdC 1).gets [1, 2]).me = 1 ∧ ((rdC 1).gets [1, 2]).st = 2 ∧ ((rdC 1).gets [1, 2]).data = [1, 2] ∧ ((rdC 1).gets [1, 2]).err = 0) := ⟨rfl, rfl, rfl, rfl⟩
  have HGY : Hf (((rdS 1 1 hs 0 0 0).gets [1, 2]).me = 1 ∧ ((rdS 1 1 hs 0 0 0).gets [1, 2]).st = 2 ∧ ((rdS 1 1 hs 0 0 0).gets [1, 2]).data = [1, 2] ∧ ((rdS 1 1 hs 0 0 0).gets [1, 2]).err = 0) := ⟨rfl, rfl, rfl, rfl⟩
  have HR0 : Hf ((rdS 0 0 hs 0 0 0).me = 1 ∧ (rdS 0 0 hs 0 0 0).cn = 1 ∧ (rdS 0 0 hs 0 0 0).cb = 1 ∧ (rdS 0 0 hs 0 0 0).cc = 1 ∧ (rdS 0 0 hs 0 0 0).id = Sha.sum [1, 2]) := ⟨rfl, rfl, rfl, rfl, rfl⟩
  generalize (rdC 1).gets [1, 2] = X1 at *
  generalize (rdS 1 1 hs 0 0 0).gets [1, 2] = Y2 at *
  generalize rdC 1 = X0 at *
  generalize rdS 0 0 hs 0 0 0 = Y0 at *
  generalize rdS 1 1 hs 0 0 0 = Y1 at *
  clear hhs hrd ok2
  go_enter Try.func36, Try.ntmps36
  go_upto_region 4 with (first
    | (go_at_call 44; (with_reducible show Calls _ _ #[Value.int .i64 1] _ _); (with_reducible refine HO1.out.mono ?_); rintro e w1 ⟨p, a1, c1, a2, c2, rfl, hp, hr, hb1⟩; have HP := Hf.mk hp; have HX1 := Hf.mk hr; have HB1 := Hf.mk hb1; clear hp hr hb1)
    | (go_at_call 44; (with_reducible show Calls _ _ #[Value.int .i64 2] _ _); (with_reducible refine (HO2.out _).mono ?_); rintro e w2 ⟨q, b1, d1, b2, d2, rfl, hq, hr, hb2⟩; have HQ := Hf.mk hq; have HY2 := Hf.mk hr; have HX2 := Hf.mk (HX1.out.below hb2); have HNE := Hf.mk (show p ≠ q by have := HX1.out.blk.lt; omega); have HB2 := Hf.mk (HB1.out.trans (hb2.mono HB1.out.size)); have HQ2 := Hf.mk (show w.heap.size ≤ q by have := HB1.out.size; omega); clear hq hr hb2))
  clear HO1 HO2 HX1 HB1 HQ
  go_upto_region 5 with (go_at_call 39; (with_reducible refine (HSX.out _ _ _ _ _ _ _ _ HX2.out).mono ?_); rintro e w3 ⟨v3, rfl, hn, ⟨e3, f3, hr⟩, hg⟩; obtain ⟨A3, k3, rfl⟩ := notes_none hn; have HX3 := Hf.mk hr; have HY3 := Hf.mk ((HY2.out.below ((Below.refl _ _).alloc (Nat.le_refl _) _)).other (HX2.out.below ((Below.refl _ _).alloc (Nat.le_refl _) _)) hg HNE.out); have HB3 := Hf.mk ((HB2.out.alloc HB2.out.size (.cells #[.int .u8 1, .int .u8 2] 5)).grown hg (by have := HB2.out.size; simp; omega) (fun k hk => by injection hk with hk; have := HP.out; omega)); clear hn hr hg)
  clear HX2 HY2 HB2 HSX
  go_upto_region 6 with (go_at_call 39; (with_reducible refine (HSY.out _ _ _ _ _ _ _ _ HY3.out).mono ?_); rintro e w4 ⟨v4, rfl, hn, ⟨e4, f4, hr⟩, hg⟩; have HN4 := Hf.mk hn; have HY4 := Hf.mk hr; have HX4 := Hf.mk ((HX3.out.below ((Below.refl _ _).alloc (Nat.le_refl _) _)).other (HY3.out.below ((Below.refl _ _).alloc (Nat.le_refl _) _)) hg (fun h => HNE.out h.symm)); have HB4 := Hf.mk ((HB3.out.alloc HB3.out.size (.cells #[.int .u8 1, .int .u8 3] 5)).grown hg (by have := HB3.out.size; simp; omega) (fun k hk => by injection hk with hk; have := HQ2.out; omega)); clear hn hr hg)
  clear HX3 HY3 HB3 HSY
  go_wp2_with (first
    | (go_at_call 69; (with_reducible show Calls _ _ #[Value.pointer (some ⟨p, 0, none⟩)] _ _); (with_reducible refine (hasC_any HX4.out (by rw [HGX.out.1]; decide) HGX.out.2.1 HGX.out.2.2.1 HGX.out.2.2.2).mono ?_); rintro e w5 ⟨rfl, hb5⟩; have HY5 := Hf.mk (HY4.out.below hb5); have HN5 := Hf.mk (HN4.out.below hb5); have HB5 := Hf.mk (below_step HB4.out hb5); clear hb5 HY4 HN4 HB4)
    | (go_at_call 45; (with_reducible refine (getC_any HN5.out HR0.out.1 HR0.out.2.1 HR0.out.2.2.1 HR0.out.2.2.2.1 HR0.out.2.2.2.2).mono ?_); rintro e w6 ⟨rfl, hb6⟩; have HY6 := Hf.mk (HY5.out.below hb6); have HB6 := Hf.mk (below_step HB5.out hb6); clear hb6 HY5 HB5)
    | (go_at_call 47; (with_reducible refine (HGT.out _ _ _ _).mono ?_); rintro e w7 ⟨rfl, hb7⟩; have HG7 := Hf.mk ((given12 w6).below hb7); have HY7 := Hf.mk ((HY6.out.below ((Below.refl _ _).alloc (Nat.le_refl _) _)).below hb7); have HB7 := Hf.mk (below_step (HB6.out.alloc HB6.out.size _) hb7); clear hb7 HY6 HB6)
    | (go_at_call 41; (with_reducible refine (HTK.out _ _ _ _ _ _ _ _ _ _ HY7.out HG7.out).mono ?_); rintro e w8 ⟨v8, rfl, hn, ⟨e8, f8, hr⟩, hg⟩; obtain ⟨A8, k8, rfl⟩ := notes_none hn; have HY8 := Hf.mk hr; have HB8 := Hf.mk (HB7.out.grown hg HB7.out.size (fun k hk => by injection hk with hk; have := HQ2.out; omega)); clear hn hr hg HY7 HB7)
    | (go_at_call 69; (with_reducible refine (hasC_any HY8.out (by rw [HGY.out.1]; decide) HGY.out.2.1 HGY.out.2.2.1 HGY.out.2.2.2).mono ?_); rintro e w9 ⟨rfl, hb9⟩; have HB9 := Hf.mk (below_step HB8.out hb9); clear hb9))
  go_ret
  exact ⟨rfl, HB9.out⟩
end Go.Proofs.Ytaaepadhapfkoaa
