/-
  Reads: the chapter's examples: ReadsKnown.
-/
import Derived.Test.YtaaepadhapfkoaaRdV
namespace Go.Proofs.Ytaaepadhapfkoaa
set_option linter.unusedSimpArgs false
set_option linter.unusedVariables false
open Go.RowKit

theorem start_two0 {hs : List Int} : (rdS 0 0 hs 0 0 0).startO [] false = [(false, 2)] ∧ (rdS 0 0 hs 0 0 0).startR [] false = rdS 1 1 hs 0 0 0 := start_two (fun h => by cases h.1)
theorem start_one0 : (rdC 1).startO [] false = [] ∧ ((rdC 1).startR [] false).err = 6 ∧ ((rdC 1).startR [] false).me = 1 := start_one (fun h => by cases h.1)
/-- a tick of the chapter's read -/
def TickC (R R' : Rdr) (ns : List (Bool × Int)) : Prop := ∀ (u : World) (p : Nat) (a1 a2 a3 : Option Addr) (c1 c2 c3 : Nat), RAt u p R a1 c1 a2 c2 a3 c3 → Calls Try.prog 46 #[.pointer (some ⟨p, 0, none⟩)] u (SendsAt u p R a1 c1 a2 c2 R' ns)
theorem TickC.run {R R' : Rdr} {ns : List (Bool × Int)} (h : TickC R R' ns) {u : World} {p : Nat} {a1 a2 a3 : Option Addr} {c1 c2 c3 : Nat} (hr : RAt u p R a1 c1 a2 c2 a3 c3) : Calls Try.prog 46 #[.pointer (some ⟨p, 0, none⟩)] u (SendsAt u p R a1 c1 a2 c2 R' ns) := h u p a1 a2 a3 c1 c2 c3 hr
theorem tickC {hs : List Int} (hh : hs = [] ∨ hs = [2]) {t a : Int} (ht : 0 ≤ t ∧ t ≤ a ∧ a < 5) {R' : Rdr} {ns : List (Bool × Int)} (he : (rdS 1 1 hs t a 0).tickO = ns ∧ (rdS 1 1 hs t a 0).tickR = R') : TickC (rdS 1 1 hs t a 0) R' ns := fun u p a1 a2 a3 c1 c2 c3 h => by
  have := tick_runs h (ok_S hh ht) rfl
  rwa [he.1, he.2] at this
/-- a read of the chapter's kind -/
def KinC (R : Rdr) : Prop := R.me = 1 ∧ R.cn = 1 ∧ R.cb = 1 ∧ R.cc = 1 ∧ R.id = Sha.sum [1, 2]
set_option maxHeartbeats 8000000 in
set_option maxRecDepth 100000 in
theorem known_reads (w : World) : Calls Try.prog 11 #[] w fun e w' => e = .returned (.bool true) ∧ Below w.heap.size w w' := by
  obtain ⟨hs, hhs, hrd⟩ := rdC_two
  have HO1 := Hf.mk (of_any 1 w (by decide) (by decide))
  have HO2 := Hf.mk (fun u => of_any 2 u (by decide) (by decide))
  rw [hrd] at HO2
  have ok2 := ok_C (n := 2) (by decide) (by decide)
  rw [hrd] at ok2
  have HSX : Hf (∀ (u : World) (p : Nat) (a1 a2 a3 : Option Addr) (c1 c2 c3 : Nat), RAt u p (rdC 1) a1 c1 a2 c2 a3 c3 → Calls Try.prog 39 #[.pointer (some ⟨p, 0, none⟩), .slice none 0 0, .bool false] u (StartsAt u p (rdC 1) a1 c1 a2 c2 ((rdC 1).startR [] false) [] 0)) := ⟨fun u p a1 a2 a3 c1 c2 c3 h => by
    have := start_any h (ok_C (by decide) (by decide)) rdC_one.2.2 _ _ [] false (given_nil u) (by decide)
    rw [start_one0.1] at this
    exact this⟩
  have HSY : Hf (∀ (u : World) (p : Nat) (a1 a2 a3 : Option Addr) (c1 c2 c3 : Nat), RAt u p (rdS 0 0 hs 0 0 0) a1 c1 a2 c2 a3 c3 → Calls Try.prog 39 #[.pointer (some ⟨p, 0, none⟩), .slice none 0 0, .bool false] u (StartsAt u p (rdS 0 0 hs 0 0 0) a1 c1 a2 c2 (rdS 1 1 hs 0 0 0) [(false, 2)] 0)) := ⟨fun u p a1 a2 a3 c1 c2 c3 h => by
    have := start_any h ok2 rfl _ _ [] false (given_nil u) (by decide)
    rw [start_two0.1, start_two0.2] at this
    exact this⟩
  have HGT := Hf.mk (fun u => gotC_any u)
  have HTK : Hf (∀ (u : World) (p : Nat) (a1 a2 a3 : Option Addr) (c1 c2 c3 : Nat) (A : Option Addr) (c : Nat), RAt u p (rdS 1 1 hs 0 0 0) a1 c1 a2 c2 a3 c3 → Given u A c [1, 3] → Calls Try.prog 41 #[.pointer (some ⟨p, 0, none⟩), .agg (nt 8 2 1 1 1 1 0 true (Sha.sum [1, 2]) (.slice A 2 c)).toArray] u (SendsAt u p ((rdS 1 1 hs 0 0 0).takeR true 2 true [1, 3]) a1 c1 a2 c2 ((rdS 1 1 hs 0 0 0).takeR true 2 true [1, 3]) [])) := ⟨fun u p a1 a2 a3 c1 c2 c3 A c h hg => by
    have := take_any h (ok_S hhs (by decide)) (noteV_nt 8 2 1 1 1 1 true (Sha.sum_len [1, 2]) (Sha.sum_lt _) hg) (by decide)
    rw [mine_C, takeC_no.1] at this
    exact this⟩
  have HGX := Hf.mk (start_one0.2)
  have HGZ := Hf.mk (takeC_no (hs := hs)).2
  have HT1 := Hf.mk (tickC hhs (t := 0) (a := 0) (by decide) tick_C.1)
  have HT2 := Hf.mk (tickC hhs (t := 1) (a := 1) (by decide) tick_C.2.1)
  have HT3 := Hf.mk (tickC hhs (t := 0) (a := 2) (by decide) tick_C.2.2.1)
  have HT4 := Hf.mk (tickC hhs (t := 1) (a := 3) (by decide) tick_C.2.2.2.1)
  have HT5 := Hf.mk (tickC hhs (t := 0) (a := 4) (by decide) tick_C.2.2.2.2)
  have HR0 : Hf (KinC (rdS 0 0 hs 0 0 0)) := ⟨⟨rfl, rfl, rfl, rfl, rfl⟩⟩
  have HR2 : Hf (KinC (rdS 1 1 hs 1 1 0)) := ⟨⟨rfl, rfl, rfl, rfl, rfl⟩⟩
  have HR4 : Hf (KinC (rdS 1 1 hs 1 3 0)) := ⟨⟨rfl, rfl, rfl, rfl, rfl⟩⟩
  have HR6 : Hf ((rdS 3 1 hs 1 5 13).me = 1 ∧ (rdS 3 1 hs 1 5 13).err = 13) := ⟨rfl, rfl⟩
  have HGC : Hf (∀ (u : World) (base : Nat) (v : Value) (R : Rdr), NotesAt u base v R [(false, 2)] → KinC R → Calls Try.prog 45 #[v] u fun e w' => e = .returned (.bool true) ∧ Below u.heap.size u w') := ⟨fun u base v R h k => getC_any h k.1 k.2.1 k.2.2.1 k.2.2.2.1 k.2.2.2.2⟩
  have HAW := Hf.mk (fun u => awake_any u)
  have HFE : Hf (∀ (u : World) (p : Nat) (R : Rdr) (a1 a2 a3 : Option Addr) (c1 c2 c3 : Nat) (x : Int), RAt u p R a1 c1 a2 c2 a3 c3 → R.err = x → R.me = 1 → Calls Try.prog 43 #[.pointer (some ⟨p, 0, none⟩)] u fun e w' => e = .returned (.int .i64 x) ∧ w' = u) := ⟨fun u p R a1 a2 a3 c1 c2 c3 x h he hm => by
    have := rfailed_any h (by rw [hm]; decide)
    rwa [he] at this⟩
  generalize (rdC 1).startR [] false = X1 at *
  generalize (rdS 1 1 hs 0 0 0).takeR true 2 true [1, 3] = Z2 at *
  generalize rdC 1 = X0 at *
  generalize rdS 0 0 hs 0 0 0 = Y0 at *
  generalize rdS 1 1 hs 0 0 0 = Y1 at *
  generalize rdS 1 1 hs 1 1 0 = Y2 at *
  generalize rdS 1 1 hs 0 2 0 = Y3 at *
  generalize rdS 1 1 hs 1 3 0 = Y4 at *
  generalize rdS 1 1 hs 0 4 0 = Y5 at *
  generalize rdS 3 1 hs 1 5 13 = Y6 at *
  clear hhs hrd ok2
  go_enter Try.func11, Try.ntmps11
  have tokz : True := trivial
  have toky : True := trivial
  go_upto_region 4 with (first
    | (go_at_call 44; (with_reducible show Calls _ _ #[Value.int .i64 1] _ _); (with_reducible refine HO1.out.mono ?_); rintro e w1 ⟨p, a1, c1, a2, c2, rfl, hp, hr, hb1⟩; have HP := Hf.mk hp; have HX1 := Hf.mk hr; have HB1 := Hf.mk hb1; clear hp hr hb1)
    | (go_at_call 44; have _t := toky; (with_reducible refine (HO2.out _).mono ?_); rintro e w2 ⟨q, b1, d1, b2, d2, rfl, hq, hr, hb2⟩; clear toky; have HY2 := Hf.mk hr; have HX2 := Hf.mk (HX1.out.below hb2); have HNE := Hf.mk (show p ≠ q by have := HX1.out.blk.lt; omega); have HB2 := Hf.mk (HB1.out.trans (hb2.mono HB1.out.size)); have HQ2 := Hf.mk (show w.heap.size ≤ q by have := HB1.out.size; omega); clear hq hr hb2)
    | (go_at_call 44; have _t := tokz; (with_reducible refine (HO2.out _).mono ?_); rintro e w3 ⟨s, g1, h1, g2, h2, rfl, hq, hr, hb3⟩; clear tokz; have HZ3 := Hf.mk hr; have HX3 := Hf.mk (HX2.out.below hb3); have HY3 := Hf.mk (HY2.out.below hb3); have HNE2 := Hf.mk (show p ≠ s ∧ q ≠ s by have := HX2.out.blk.lt; have := HY2.out.blk.lt; omega); have HB3 := Hf.mk (HB2.out.trans (hb3.mono HB2.out.size)); have HS2 := Hf.mk (show w.heap.size ≤ s by have := HB2.out.size; omega); clear hq hr hb3))
  clear HO1 HO2 HX1 HB1 HX2 HY2 HB2
  go_upto_region 5 with (go_at_call 39; (with_reducible refine (HSX.out _ _ _ _ _ _ _ _ HX3.out).mono ?_); rintro e w4 ⟨v4, rfl, hn, ⟨e3, f3, hr⟩, hg⟩; obtain ⟨A4, k4, rfl⟩ := notes_none hn; have HX4 := Hf.mk hr; have HY4 := Hf.mk (HY3.out.other HX3.out hg HNE.out); have HZ4 := Hf.mk (HZ3.out.other HX3.out hg HNE2.out.1); have HB4 := Hf.mk (HB3.out.grown hg HB3.out.size (fun k hk => by injection hk with hk; have := HP.out; omega)); clear hn hr hg)
  clear HX3 HY3 HZ3 HB3 HSX
  go_upto_region 6 with (go_at_call 39; (with_reducible refine (HSY.out _ _ _ _ _ _ _ _ HY4.out).mono ?_); rintro e w5 ⟨v5, rfl, hn, ⟨e4, f4, hr⟩, hg⟩; have HK5 := Hf.mk hn; have HY5 := Hf.mk hr; have HX5 := Hf.mk (HX4.out.other HY4.out hg (fun h => HNE.out h.symm)); have HZ5 := Hf.mk (HZ4.out.other HY4.out hg HNE2.out.2); have HB5 := Hf.mk (HB4.out.grown hg HB4.out.size (fun k hk => by injection hk with hk; have := HQ2.out; omega)); have HSQ := Hf.mk (show w4.heap.size > s by exact HZ4.out.blk.lt); clear hn hr hg)
  clear HX4 HY4 HZ4 HB4
  go_upto_region 7 with (go_at_call 39; (with_reducible refine (HSY.out _ _ _ _ _ _ _ _ HZ5.out).mono ?_); rintro e w6 ⟨v6, rfl, hn, ⟨e5, f5, hr⟩, hg⟩; have HM6 := Hf.mk hn; have HZ6 := Hf.mk hr; have HX6 := Hf.mk (HX5.out.other HZ5.out hg (fun h => HNE2.out.1 h.symm)); have HY6 := Hf.mk (HY5.out.other HZ5.out hg (fun h => HNE2.out.2 h.symm)); have HK6 := Hf.mk (HK5.out.grown hg HSQ.out); have HB6 := Hf.mk (HB5.out.grown hg HB5.out.size (fun k hk => by injection hk with hk; have := HS2.out; omega)); clear hn hr hg)
  clear HX5 HY5 HZ5 HB5 HK5 HSY
  have tok1 : True := trivial
  have tok2 : True := trivial
  obtain ⟨Ak, ck, rfl, _⟩ := HK6.out.form
  obtain ⟨Am, cm, rfl, _⟩ := HM6.out.form
  have HK6 : Hf (NotesAt w6 w4.heap.size (.slice Ak 1 ck) Y0 [(false, 2)]) := ⟨HK6.out⟩
  have HM6 : Hf (NotesAt w6 w5.heap.size (.slice Am 1 cm) Y0 [(false, 2)]) := ⟨HM6.out⟩
  go_upto_region 8 with (first
    | (go_at_call 43; (with_reducible refine (HFE.out _ _ _ _ _ _ _ _ _ 6 HX6.out HGX.out.1 HGX.out.2).mono ?_); rintro e w7 ⟨rfl, rfl⟩)
    | (go_at_call 45; have _t := tok1; (with_reducible refine (HGC.out _ _ _ _ HK6.out HR0.out).mono ?_); rintro e w7 ⟨rfl, hb7⟩; clear tok1; have HY7 := Hf.mk (HY6.out.below hb7); have HZ7 := Hf.mk (HZ6.out.below hb7); have HM7 := Hf.mk (HM6.out.below hb7); have HB7 := Hf.mk (below_step HB6.out hb7); clear hb7)
    | (go_at_call 45; have _t := tok2; (with_reducible refine (HGC.out _ _ _ _ HM7.out HR0.out).mono ?_); rintro e w8 ⟨rfl, hb8⟩; clear tok2; have HY8 := Hf.mk (HY7.out.below hb8); have HZ8 := Hf.mk (HZ7.out.below hb8); have HB8 := Hf.mk (below_step HB7.out hb8); clear hb8))
  clear HX6 HK6 HM6 HY6 HZ6 HB6 HY7 HZ7 HM7 HB7
  go_upto_region 9 with (first
    | (go_at_call 46; (with_reducible refine (HT1.out.run HY8.out).mono ?_); rintro e w9 ⟨v9, rfl, hn, ⟨e9, f9, hr⟩, hg⟩; obtain ⟨A9, k9, rfl⟩ := notes_none hn; have HY9 := Hf.mk hr; have HZ9 := Hf.mk (HZ8.out.other HY8.out hg HNE2.out.2); have HB9 := Hf.mk (HB8.out.grown hg HB8.out.size (fun k hk => by injection hk with hk; have := HQ2.out; omega)); clear hn hr hg HY8 HZ8 HB8)
    | (go_at_call 46; (with_reducible refine (HT2.out.run HY9.out).mono ?_); rintro e w10 ⟨v10, rfl, hn, ⟨e10, f10, hr⟩, hg⟩; obtain ⟨A10, k10, rfl, _⟩ := hn.form; have HN10 : Hf (NotesAt w10 w9.heap.size (.slice A10 1 k10) Y2 [(false, 2)]) := ⟨hn⟩; have HY10 := Hf.mk hr; have HZ10 := Hf.mk (HZ9.out.other HY9.out hg HNE2.out.2); have HB10 := Hf.mk (HB9.out.grown hg HB9.out.size (fun k hk => by injection hk with hk; have := HQ2.out; omega)); clear hn hr hg HY9 HZ9 HB9)
    | (go_at_call 45; (with_reducible refine (HGC.out _ _ _ _ HN10.out HR2.out).mono ?_); rintro e w11 ⟨rfl, hb⟩; have HY11 := Hf.mk (HY10.out.below hb); have HZ11 := Hf.mk (HZ10.out.below hb); have HB11 := Hf.mk (below_step HB10.out hb); clear hb HY10 HZ10 HB10 HN10)
    | (go_at_call 46; (with_reducible refine (HT3.out.run HY11.out).mono ?_); rintro e w12 ⟨v12, rfl, hn, ⟨e12, f12, hr⟩, hg⟩; obtain ⟨A12, k12, rfl⟩ := notes_none hn; have HY12 := Hf.mk hr; have HZ12 := Hf.mk (HZ11.out.other HY11.out hg HNE2.out.2); have HB12 := Hf.mk (HB11.out.grown hg HB11.out.size (fun k hk => by injection hk with hk; have := HQ2.out; omega)); clear hn hr hg HY11 HZ11 HB11)
    | (go_at_call 46; (with_reducible refine (HT4.out.run HY12.out).mono ?_); rintro e w13 ⟨v13, rfl, hn, ⟨e13, f13, hr⟩, hg⟩; obtain ⟨A13, k13, rfl, _⟩ := hn.form; have HN13 : Hf (NotesAt w13 w12.heap.size (.slice A13 1 k13) Y4 [(false, 2)]) := ⟨hn⟩; have HY13 := Hf.mk hr; have HZ13 := Hf.mk (HZ12.out.other HY12.out hg HNE2.out.2); have HB13 := Hf.mk (HB12.out.grown hg HB12.out.size (fun k hk => by injection hk with hk; have := HQ2.out; omega)); clear hn hr hg HY12 HZ12 HB12)
    | (go_at_call 45; (with_reducible refine (HGC.out _ _ _ _ HN13.out HR4.out).mono ?_); rintro e w14 ⟨rfl, hb⟩; have HY14 := Hf.mk (HY13.out.below hb); have HZ14 := Hf.mk (HZ13.out.below hb); have HB14 := Hf.mk (below_step HB13.out hb); clear hb HY13 HZ13 HB13 HN13)
    | (go_at_call 46; (with_reducible refine (HT5.out.run HY14.out).mono ?_); rintro e w15 ⟨v15, rfl, hn, ⟨e15, f15, hr⟩, hg⟩; obtain ⟨A15, k15, rfl⟩ := notes_none hn; have HY15 := Hf.mk hr; have HZ15 := Hf.mk (HZ14.out.other HY14.out hg HNE2.out.2); have HB15 := Hf.mk (HB14.out.grown hg HB14.out.size (fun k hk => by injection hk with hk; have := HQ2.out; omega)); clear hn hr hg HY14 HZ14 HB14)
    | (go_at_call 43; (with_reducible refine (HFE.out _ _ _ _ _ _ _ _ _ 13 HY15.out HR6.out.2 HR6.out.1).mono ?_); rintro e w16 ⟨rfl, rfl⟩))
  go_wp2_with (first
    | (go_at_call 36; (with_reducible refine (HAW.out _).mono ?_); rintro e w17 ⟨rfl, hb⟩; have HZ17 := Hf.mk (HZ15.out.below hb); have HB17 := Hf.mk (below_step HB15.out hb); clear hb HZ15 HB15)
    | (go_at_call 47; (with_reducible refine (HGT.out _ _ _ _).mono ?_); rintro e w18 ⟨rfl, hb⟩; have HG18 := Hf.mk ((given13 w17).below hb); have HZ18 := Hf.mk ((HZ17.out.below ((Below.refl _ _).alloc (Nat.le_refl _) _)).below hb); have HB18 := Hf.mk (below_step (HB17.out.alloc HB17.out.size _) hb); clear hb HZ17 HB17)
    | (go_at_call 41; (with_reducible refine (HTK.out _ _ _ _ _ _ _ _ _ _ HZ18.out HG18.out).mono ?_); rintro e w19 ⟨v19, rfl, hn, ⟨e19, f19, hr⟩, hg⟩; obtain ⟨A19, k19, rfl⟩ := notes_none hn; have HZ19 := Hf.mk hr; have HB19 := Hf.mk (HB18.out.grown hg HB18.out.size (fun k hk => by injection hk with hk; have := HS2.out; omega)); clear hn hr hg HZ18 HB18)
    | (go_at_call 43; (with_reducible refine (HFE.out _ _ _ _ _ _ _ _ _ 6 HZ19.out HGZ.out.1 HGZ.out.2).mono ?_); rintro e w20 ⟨rfl, rfl⟩))
  go_ret
  exact ⟨rfl, HB19.out⟩
theorem readsKnown_walk (W : World) : Calls Try.prog 11 #[] W fun e w' => e = .returned (.bool true) ∧ Below W.heap.size W w' := known_reads W
end Go.Proofs.Ytaaepadhapfkoaa
