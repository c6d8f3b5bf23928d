/-
  LearnMajority, walked and answered.
-/
import Derived.Test.YtheafmjdncmpoaaLrnM
import Derived.Test.YtheafmjdncmpoaaLrnKn
import Derived.Test.YtheafmjdncmpoaaQuoM
namespace Go.Proofs.Ytheafmjdncmpoaa
set_option linter.unusedSimpArgs false
set_option linter.unusedVariables false
open Go.RowKit Go.Proofs.YtheafmjdncmpoaaW.PrintWords Go.Proofs.YtheafmjdncmpoaaW.PrintMore

set_option maxHeartbeats 12800000 in
set_option maxRecDepth 100000 in
theorem learnMajority_core (y0 : Int) (a : Option Addr) (c : Nat) (xs : List Wd) (w : World) (hW : IsWords w a xs.length c xs) :
    Calls Try.prog 17 #[.int .i64 y0, .slice a xs.length c] w fun e w' => e = .returned (.bool true) ∧ Below w.heap.size w w' := by
  have hl1 := hW.2.2.1
  have HW := Aside0.mk hW
  have HLG := Aside0.mk (fun u (hb : Below w.heap.size w u) => long_any (hW.below hb))
  clear hW
  have hp := Int.emod_nonneg y0 (show (9 : Int) ≠ 0 by omega)
  have hp2 := Int.emod_lt_of_pos y0 (show (0 : Int) < 9 by omega)
  have HPK := Aside0.mk (fun u => Pick_any y0 9 u (by omega) (by omega))
  obtain ⟨y, hy⟩ := Int.eq_ofNat_of_zero_le hp
  rw [hy] at HPK hp2
  clear hp hy
  obtain ⟨n, hN⟩ : ∃ n : Nat, 1 + (y : Int) = n := ⟨y + 1, by omega⟩
  have hn1 : 1 ≤ n := by omega
  have hn2 : n ≤ 9 := by omega
  clear hp2
  have HNEW := Aside0.mk (fun u (hb : Below w.heap.size w u) => newL n 1 w u hb ⟨hn1, by omega⟩ (by decide))
  go_enter Try.func17, Try.ntmps17
  go_wp2_with (first
    | (go_at_call 16; (with_reducible refine (learnKnown_walk _).mono ?_); rintro e u ⟨rfl, hb⟩; have HB := Aside0.mk hb; clear hb)
    | (go_at_call 55; (with_reducible refine (HLG.out _ HB.out).mono ?_); rintro e u ⟨r, rfl, hb, _⟩; have h1 := Aside0.mk (below_step HB.out hb); clear HB hb; have HB := h1; clear h1)
    | (go_at_call 19; (with_reducible refine (HPK.out _).mono ?_); rintro e u ⟨rfl, rfl⟩)
    | (go_at_call 50; (with_reducible refine (HNEW.out _ HB.out).mono ?_); rintro e u2 ⟨b, rfl, hl⟩; have HL := Aside0.mk hl; clear hl)
    | ((with_reducible refine gate_dst (N := 44) rfl ?_); refine Kd.R_make PLearnScript.k23 (w0 := w) w.heap.size 23 rfl (N := 44) rfl 33 _ _ rfl ((n : Int) + 1) rfl rfl Try.underlying33 (.agg #[.int .i64 0, .int .i64 0]) 16 (by kernel_rfl) rfl (by decide) (by omega) ⟨0, 0⟩ (ok := fun k => u2.heap.size ≤ k) (okp := fun _ => False) (PLearnScript.k23_mkM _ _ _ ⟨0, 0⟩) (fun _ h => h.elim) (Nat.le_refl _) (by omega) (by omega) HL.out.hb HL.out.hb.size ?_; intro v1 w1 ho hb hg hat; have HO := Aside0.mk ho; have HBB := Aside0.mk hb; have HGR := Aside0.mk hg; clear ho hb hg hat))
  · go_ret
    exact ⟨rfl, HB.out⟩
  · have hr0 : r = false := by first | assumption | simp_all
    subst hr0
    obtain ⟨g, c2, hv1, hsi⟩ := mj_start rfl HO.out HGR.out HL.out HBB.out
    have HSI : Aside0 (MJ w w w1 (fun k => k = g) b g n ⟨n, fun _ => hd0, false, []⟩ (fun _ => (0, 0))) := ⟨hsi⟩
    subst hv1
    clear hsi HO HGR HL HBB HB HNEW HPK hN HLG
    go_loopw [9, 10, 11, 12, 13, 14, 15, 16, 17, 18, 19, 20, 21, 22, 23] (fun told i s11 s12 s13 s14 s15 s16 s17 s18 s19 s20 s21 s22 s23 wr => ∃ (k : Nat) (L : Lr) (tb : Bool), k ≤ xs.length ∧ i = .int .i64 k ∧ told = .bool tb ∧ Aside0 (MJ w w wr (fun k => k = g) b g n L (pairOf L))) (fun _ i _ _ _ _ _ _ _ _ _ _ _ _ _ _ => xs.length - (intOf i).toNat)
    case atStart =>
      exact ⟨0, _, false, by omega, rfl, rfl, HSI⟩
    case round =>
      clear HSI
      obtain ⟨k, L, tb, hk, rfl, rfl, HM⟩ := hrel
      by_cases hgo : k < xs.length
      · obtain ⟨ad, A, cx, rfl, hc, hg⟩ := HW.out.2.2.2 k hgo
        rw [show (⟨false, 0, 0, 0, []⟩ : Wd) = zW from rfl] at hc hg
        have q0 := hc 0 _ rfl
        have q1 := hc 1 _ rfl
        have q2 := hc 2 _ rfl
        have q3 := hc 3 _ rfl
        have q4 := hc 4 _ rfl
        obtain ⟨q, hq⟩ : ∃ q, xs.getD k zW = q := ⟨_, rfl⟩
        rw [hq] at q0 q1 q2 q3 q4 hg
        clear hc hq
        obtain ⟨t, kk, v, d, x⟩ := q
        simp only [Nat.add_zero] at q0 q1 q2 q3 q4 hg
        obtain ⟨ln, hln⟩ : ∃ ln, x.length = ln := ⟨_, rfl⟩
        rw [hln] at q4
        have HLN := Aside0.mk hln
        have HG := Aside0.mk hg
        clear hln hg
        rw [add_field _ _ 1 (by omega)] at q1
        rw [add_field _ _ 2 (by omega)] at q2
        rw [add_field _ _ 3 (by omega)] at q3
        rw [add_field _ _ 4 (by omega)] at q4
        have p0 := pw_cell_below HM.out.hb q0
        have p1 := pw_cell_below HM.out.hb q1
        have p2 := pw_cell_below HM.out.hb q2
        have p3 := pw_cell_below HM.out.hb q3
        have p4 := pw_cell_below HM.out.hb q4
        clear q0 q1 q2 q3 q4
        go_upto_region 14 with fail
        generalize hW0 : wr.alloc _ = W0
        have hb0 : Below wr.heap.size wr W0 := by rw [← hW0]; exact (Below.refl _ _).alloc (Nat.le_refl _) _
        have hB0 : Boxed W0 wr.heap.size t kk v d A ln cx := by rw [← hW0]; exact heap_alloc_new _ _
        have hs0 : wr.heap.size < W0.heap.size := by rw [← hW0]; simp
        have HB0 := Aside0.mk hb0
        have HB1 := Aside0.mk hB0
        have HS0 := Aside0.mk hs0
        have HM0 := Aside0.mk (HM.out.below hb0)
        have HGL : Aside0 (g < wr.heap.size) := ⟨HM.out.hlt g rfl⟩
        have HX4 : Aside0 (∀ u, Below w.heap.size w u → Given u A cx x) := ⟨fun u hb => HG.out.below hb⟩
        clear hb0 hB0 hs0
        clear p0 p1 p2 p3 p4 hW0
        obtain ⟨dc, hdc⟩ : ∃ dc, L.dec = dc := ⟨_, rfl⟩
        have HDC := Aside0.mk hdc
        have HD1 := Aside0.mk (HM0.out.decided)
        rw [hdc] at HD1
        clear hdc
        go_upto_region 15 with (go_at_call 53; (with_reducible refine HD1.out.mono ?_); rintro e W1 ⟨A0, c0, l0, rfl, hb, hr, hl0⟩; have HB2 := Aside0.mk hb; have HR0 := Aside0.mk hr; have HL0 := Aside0.mk hl0; clear hb hr hl0)
        have HM1 := Aside0.mk (HM.out.box (below_step HB0.out HB2.out))
        have HBX : Aside0 (Boxed W1 wr.heap.size t kk v d A ln cx) := ⟨(HB2.out.block _ HS0.out).trans HB1.out⟩
        have HS1 : Aside0 (wr.heap.size < W1.heap.size) := ⟨Nat.lt_of_lt_of_le HS0.out HB2.out.size⟩
        have HWAS := Aside0.mk (fun (u : World) (L2 : Lr) (T2 : Nat → Int × Int) (h : MJ w W1 u (Kept g wr.heap.size W1.heap.size) b g n L2 T2) => h.was HR0.out (Nat.le_of_lt HS0.out) (Nat.le_refl _) HGL.out)
        have HBO := Aside0.mk (fun (u : World) (L2 : Lr) (T2 : Nat → Int × Int) (h : MJ w W1 u (Kept g wr.heap.size W1.heap.size) b g n L2 T2) => h.boxed HGL.out HS1.out HBX.out)
        clear HB0 HB1 HS0 HM0 HM HD1 HB2 HR0 HBX HS1 HGL
        obtain ⟨K, hK⟩ : ∃ K, Kept g wr.heap.size W1.heap.size = K := ⟨_, rfl⟩
        have HUN : Aside0 (∀ (u : World) (L2 : Lr) (T2 : Nat → Int × Int), MJ w W1 u K b g n L2 T2 → MJ w w u (fun k => k = g) b g n L2 T2) := ⟨fun u L2 T2 h => by rw [← hK] at h; exact h.unbox⟩
        rw [hK] at HM1 HWAS HBO
        clear hK
        obtain ⟨wb, hwb⟩ : ∃ wb, wr.heap.size = wb := ⟨_, rfl⟩
        rw [hwb] at HBO ⊢
        clear hwb
        obtain ⟨b0, b1, b2, b3, b4⟩ := HBO.out _ _ _ HM1.out
        cases t with
        | true =>
          obtain ⟨⟨⟨r, er⟩, L'⟩, hq⟩ : ∃ q, toldI L x = q := ⟨_, rfl⟩
          have hf := told_facts L x
          rw [hq, HDC.out] at hf
          simp only at hf
          obtain ⟨hr, hnod, hof⟩ := hf
          have HTC : Aside0 (∀ u, MJ w W1 u K b g n L (pairOf L) → Calls Try.prog 59 #[.pointer (some ⟨b, 0, none⟩), .slice A ln cx] u fun e v => e = .returned (.tuple #[.bool r, .int .i64 er]) ∧ MJ w W1 v K b g n L' (pairOf L')) := ⟨fun u h => by
            have := h.told (HX4.out u h.hb) hq
            rw [HLN.out] at this
            exact this.mono fun e v ⟨h1, h2⟩ => ⟨h1, h2.congr fun i _ => hof i⟩⟩
          clear hq hnod hof
          by_cases he : er = 0
          · subst he
            cases dc with
            | true =>
              obtain rfl : r = false := hr
              go_wp2_with (go_at_call 59; (with_reducible refine (HTC.out _ HM1.out).mono ?_); rintro e u ⟨rfl, h⟩; have HM2 := Aside0.mk h; clear h)
              all_goals
                go_roundw
                case rel => exact ⟨k + 1, L', _, by omega, by go_num, rfl, ⟨HUN.out _ _ _ HM2.out⟩⟩
                case measure => simp [intOf]; omega
            | false =>
              obtain rfl : r = true := hr
              go_wp2_with (go_at_call 59; (with_reducible refine (HTC.out _ HM1.out).mono ?_); rintro e u ⟨rfl, h⟩; have HM2 := Aside0.mk h; clear h)
              all_goals
                go_roundw
                case rel => exact ⟨k + 1, L', _, by omega, by go_num, rfl, ⟨HUN.out _ _ _ HM2.out⟩⟩
                case measure => simp [intOf]; omega
          · have he' : (er == 0) = false := by simpa using he
            rw [he'] at hr
            obtain rfl : r = false := hr
            go_wp2_with (go_at_call 59; (with_reducible refine (HTC.out _ HM1.out).mono ?_); rintro e u ⟨rfl, h⟩; have HM2 := Aside0.mk h; clear h)
            all_goals
              go_roundw
              case rel => exact ⟨k + 1, L', _, by omega, by go_num, rfl, ⟨HUN.out _ _ _ HM2.out⟩⟩
              case measure => simp [intOf]; omega
        | false =>
          obtain ⟨⟨⟨r, er⟩, L'⟩, hq⟩ : ∃ q, hearI L kk v d x = q := ⟨_, rfl⟩
          have hf := hear_facts L kk v d x
          rw [hq] at hf
          simp only at hf
          have HF := Aside0.mk hf
          have HHC : Aside0 (∀ u, MJ w W1 u K b g n L (pairOf L) → Calls Try.prog 51 #[.pointer (some ⟨b, 0, none⟩), .int .i64 kk, .agg #[.int .i64 v, .int .i64 d], .slice A ln cx] u fun e v => e = .returned (.tuple #[.bool r, .int .i64 er]) ∧ MJ w W1 v K b g n L' (pairOf L)) := ⟨fun u h => by
            have := h.hear kk v d (HX4.out u h.hb) hq
            rw [HLN.out] at this
            exact this⟩
          have HHC2 : Aside0 (∀ u, MJ w W1 u K b g n L' (pairOf L') → Calls Try.prog 51 #[.pointer (some ⟨b, 0, none⟩), .int .i64 kk, .agg #[.int .i64 v, .int .i64 d], .slice A ln cx] u fun e v => e = .returned (.tuple #[.bool false, .int .i64 er]) ∧ MJ w W1 v K b g n L' (pairOf L')) := ⟨fun u h => by
            have := h.hear kk v d (HX4.out u h.hb) hf.again
            rw [HLN.out] at this
            exact this⟩
          clear hq hf
          go_upto_region 21 with (go_at_call 51; (with_reducible refine (HHC.out _ HM1.out).mono ?_); rintro e u ⟨rfl, h⟩; have HM2 := Aside0.mk h; clear h)
          clear HHC HM1
          obtain ⟨b0, b1, b2, b3, b4⟩ := HBO.out _ _ _ HM2.out
          have hnn : L.nodes = n := by have := HF.out.nodes; have := HM2.out.hn; omega
          have HOF := Aside0.mk HF.out.of
          go_cut [104] from 92 to 105 (fun c104 wx => c104 = .bool false ∧ wx = u)
          case first =>
            by_cases he : er = 0
            · subst he
              obtain ⟨hk1, hk2⟩ := HF.out.ok rfl
              rw [hnn] at hk2
              go_wp2_with fail
              go_meet
              case rel => exact ⟨by simp; omega, rfl⟩
            · have he' : (er == 0) = false := by simpa using he
              go_wp2_with fail
              go_meet
              case rel => exact ⟨rfl, rfl⟩
          case rest =>
          obtain ⟨rfl, hwc⟩ := hcut
          subst hwc
          go_upto_region 23 with fail
          go_cut [116] from 105 to 117 (fun c116 wx => ∃ st : Bool, c116 = .bool st ∧ Aside0 (st = true → ∃ kn : Nat, kk = kn ∧ kn ≤ n ∧ ∀ i, i ≤ n → pairOf L' i = if i = kn then (v, d) else pairOf L i) ∧ Aside0 (st = false → ∀ i, i ≤ n → pairOf L' i = pairOf L i) ∧ Aside0 (MJ w W1 wx K b g n L' (pairOf L)))
          case first =>
            clear HHC2 HX4 HUN HWAS HW HG
            by_cases he : er = 0
            · subst he
              obtain ⟨hk1, hk2⟩ := HF.out.ok rfl
              rw [hnn] at hk2
              obtain ⟨kn, rfl⟩ := Int.eq_ofNat_of_zero_le (show 0 ≤ kk by omega)
              have kI0 : (0 : Int) ≤ (kn : Int) := by omega
              have kI1 : (kn : Int) < ((n + 1 : Nat) : Int) := by omega
              have kI2 : (kn : Int) < (n : Int) + 1 := by omega
              have kI3 : kn ≤ n := by omega
              have HKN : Aside0 (kn ≤ n) := ⟨kI3⟩
              have HLS := Aside0.mk (fun u => less_any (pairOf L kn).1 (pairOf L kn).2 v d u)
              have HCE := Aside0.mk (fun (u : World) (h : MJ w W1 u K b g n L' (pairOf L)) => h.cell HKN.out)
              cases hls : lessB (pairOf L kn).1 (pairOf L kn).2 v d with
              | true =>
                have HT : Aside0 (∀ i, i ≤ n → pairOf L' i = if i = kn then (v, d) else pairOf L i) := ⟨fun i _ => by
                  rw [HOF.out i]
                  by_cases e : i = kn
                  · subst e; rw [if_pos ⟨rfl, by simp, hls⟩, if_pos rfl]
                  · rw [if_neg (fun h => e (by simpa using h.2.1)), if_neg e]⟩
                rw [hls] at HLS
                obtain ⟨p1, hp1⟩ : ∃ p, (pairOf L kn).1 = p := ⟨_, rfl⟩
                obtain ⟨p2, hp2⟩ : ∃ p, (pairOf L kn).2 = p := ⟨_, rfl⟩
                rw [hp1, hp2] at HLS HCE
                clear hls hp1 hp2
                have HXS : Aside0 (∀ u, MJ w W1 u K b g n L' (pairOf L) → (fun w' => w'.cell? ⟨g, kn * 2, none⟩ = some (.int .i64 p1) ∧ w'.cell? ⟨g, kn * 2 + 1, none⟩ = some (.int .i64 p2) ∧ w'.cell? ⟨wb, 1, none⟩ = some (.int .i64 kn) ∧ w'.cell? ⟨wb, 2, none⟩ = some (.int .i64 v) ∧ w'.cell? ⟨wb, 3, none⟩ = some (.int .i64 d)) u) := ⟨fun u h => by
                  obtain ⟨c0, c1, _, _⟩ := HCE.out u h
                  obtain ⟨d0, d1, d2, d3, d4⟩ := HBO.out _ _ _ h
                  exact ⟨c0, c1, d1, d2, d3⟩⟩
                have HSp := Aside0.mk (HM2.out.below (Below.refl _ _).drew)
                go_region_held3 (fun w' => w'.cell? ⟨g, kn * 2, none⟩ = some (.int .i64 p1) ∧ w'.cell? ⟨g, kn * 2 + 1, none⟩ = some (.int .i64 p2) ∧ w'.cell? ⟨wb, 1, none⟩ = some (.int .i64 kn) ∧ w'.cell? ⟨wb, 2, none⟩ = some (.int .i64 v) ∧ w'.cell? ⟨wb, 3, none⟩ = some (.int .i64 d))
                  (first | exact HXS.out _ HSp.out | assumption)
                  (first | (go_at_call 23; (with_reducible refine (HLS.out _).mono ?_); rintro e u9 ⟨rfl, h⟩; have HX := Aside0.mk (HSp.out.below h); clear HSp h; have HSp := HX; clear HX; have hk := HXS.out _ HSp.out))
                all_goals
                  go_wp2_with fail
                  go_meet
                  case rel => exact ⟨true, rfl, ⟨fun _ => ⟨kn, rfl, HKN.out, HT.out⟩⟩, ⟨fun h => by cases h⟩, HSp⟩
              | false =>
                have HT : Aside0 (∀ i, i ≤ n → pairOf L' i = pairOf L i) := ⟨fun i _ => by
                  rw [HOF.out i]
                  by_cases e : i = kn
                  · subst e; rw [if_neg (fun h => by have := h.2.2; unfold pairOf at hls; rw [hls] at this; cases this)]
                  · rw [if_neg (fun h => e (by simpa using h.2.1))]⟩
                rw [hls] at HLS
                obtain ⟨p1, hp1⟩ : ∃ p, (pairOf L kn).1 = p := ⟨_, rfl⟩
                obtain ⟨p2, hp2⟩ : ∃ p, (pairOf L kn).2 = p := ⟨_, rfl⟩
                rw [hp1, hp2] at HLS HCE
                clear hls hp1 hp2
                have HXS : Aside0 (∀ u, MJ w W1 u K b g n L' (pairOf L) → (fun w' => w'.cell? ⟨g, kn * 2, none⟩ = some (.int .i64 p1) ∧ w'.cell? ⟨g, kn * 2 + 1, none⟩ = some (.int .i64 p2) ∧ w'.cell? ⟨wb, 1, none⟩ = some (.int .i64 kn) ∧ w'.cell? ⟨wb, 2, none⟩ = some (.int .i64 v) ∧ w'.cell? ⟨wb, 3, none⟩ = some (.int .i64 d)) u) := ⟨fun u h => by
                  obtain ⟨c0, c1, _, _⟩ := HCE.out u h
                  obtain ⟨d0, d1, d2, d3, d4⟩ := HBO.out _ _ _ h
                  exact ⟨c0, c1, d1, d2, d3⟩⟩
                have HSp := Aside0.mk (HM2.out.below (Below.refl _ _).drew)
                go_region_held3 (fun w' => w'.cell? ⟨g, kn * 2, none⟩ = some (.int .i64 p1) ∧ w'.cell? ⟨g, kn * 2 + 1, none⟩ = some (.int .i64 p2) ∧ w'.cell? ⟨wb, 1, none⟩ = some (.int .i64 kn) ∧ w'.cell? ⟨wb, 2, none⟩ = some (.int .i64 v) ∧ w'.cell? ⟨wb, 3, none⟩ = some (.int .i64 d))
                  (first | exact HXS.out _ HSp.out | assumption)
                  (first | (go_at_call 23; (with_reducible refine (HLS.out _).mono ?_); rintro e u9 ⟨rfl, h⟩; have HX := Aside0.mk (HSp.out.below h); clear HSp h; have HSp := HX; clear HX; have hk := HXS.out _ HSp.out))
                all_goals
                  go_wp2_with fail
                  go_meet
                  case rel => exact ⟨false, rfl, ⟨fun h => by cases h⟩, ⟨fun _ => HT.out⟩, HSp⟩
            · have he' : (er == 0) = false := by simpa using he
              have HT : Aside0 (∀ i, i ≤ n → pairOf L' i = pairOf L i) := ⟨fun i _ => by rw [HOF.out i, if_neg (fun h => he h.1)]⟩
              go_quiet (fail)
              all_goals
                rename_i nq
                have HSp := Aside0.mk (HM2.out.below (pw_below_drewN (Below.refl _ _) nq))
                go_wp2_with fail
                go_meet
                case rel => exact ⟨false, rfl, ⟨fun h => by cases h⟩, ⟨fun _ => HT.out⟩, HSp⟩
          case rest =>
          obtain ⟨st, rfl, HST, HSF, HM3⟩ := hcut
          clear HM2
          go_upto_if 116 with fail
          go_cut [] from 117 to 123 (fun wx => Aside0 (MJ w W1 wx K b g n L' (pairOf L')))
          case first =>
            cases st with
            | true =>
              obtain ⟨kn, rfl, hkn, hT⟩ := HST.out rfl
              have HT := Aside0.mk hT
              have HKN := Aside0.mk hkn
              clear hT
              have kI0 : (0 : Int) ≤ (kn : Int) := by omega
              have kI1 : (kn : Int) < ((n + 1 : Nat) : Int) := by omega
              have kI2 : (kn : Int) < (n : Int) + 1 := by omega
              obtain ⟨c0, c1, f0, f1⟩ := HM3.out.cell HKN.out
              obtain ⟨d0, d1, d2, d3, d4⟩ := HBO.out _ _ _ HM3.out
              go_wp2_with fail
              go_meet
              case rel => exact ⟨(HM3.out.store kn v d).congr HT.out⟩
            | false =>
              have HT := Aside0.mk (HSF.out rfl)
              go_wp2_with fail
              go_meet
              case rel => exact ⟨HM3.out.congr HT.out⟩
          case rest =>
          have HM4 := hcut
          clear HM3 HST HSF hcut
          go_wp2_with fail
          go_loopw [18, 19] (fun same k2 wr2 => ∃ j : Nat, j ≤ n ∧ k2 = .int .i64 ((j + 1 : Nat) : Int) ∧ same = .int .i64 (countN (goodI L' v d) j : Nat) ∧ Aside0 (MJ w W1 wr2 K b g n L' (pairOf L'))) (fun _ k2 _ => n + 1 - (intOf k2).toNat)
          case atStart => exact ⟨0, by omega, rfl, rfl, HM4⟩
          case round =>
            clear HM4
            obtain ⟨j, hj, rfl, rfl, HM5⟩ := hrel
            by_cases hgo2 : j < n
            · clear HHC2 HX4 HUN HWAS HW HG
              obtain ⟨jn, hjn⟩ : ∃ jn : Nat, j + 1 = jn := ⟨_, rfl⟩
              have hj1 : 1 ≤ jn := by omega
              have hj2 : jn ≤ n := by omega
              have HJ := Aside0.mk hjn
              have HJ1 : Aside0 (1 ≤ jn ∧ jn ≤ n) := ⟨hj1, hj2⟩
              have hj3 : (jn : Int) ≤ (n : Int) := by omega
              have kI0 : (0 : Int) ≤ (jn : Int) := by omega
              have kI1 : (jn : Int) < ((n + 1 : Nat) : Int) := by omega
              have kI2 : (jn : Int) < (n : Int) + 1 := by omega
              have HCN : Aside0 (countN (goodI L' v d) jn = countN (goodI L' v d) j + if ((pairOf L' jn).1 == v && (pairOf L' jn).2 == d) = true then 1 else 0) := ⟨by rw [← hjn]; rfl⟩
              have HHD := Aside0.mk (fun (u : World) (h : MJ w W1 u K b g n L' (pairOf L')) => h.heard HJ1.out.1 HJ1.out.2)
              have HCE := Aside0.mk (fun (u : World) (h : MJ w W1 u K b g n L' (pairOf L')) => h.cell HJ1.out.2)
              obtain ⟨p1, hp1⟩ : ∃ p, (pairOf L' jn).1 = p := ⟨_, rfl⟩
              obtain ⟨p2, hp2⟩ : ∃ p, (pairOf L' jn).2 = p := ⟨_, rfl⟩
              obtain ⟨cn, hcn⟩ : ∃ cn, countN (goodI L' v d) j = cn := ⟨_, rfl⟩
              rw [hp1, hp2] at HHD HCE
              rw [hp1, hp2, hcn] at HCN
              rw [hcn, hjn]
              have hcl : cn ≤ j := by rw [← hcn]; exact countN_le _ _
              clear hp1 hp2 hcn hjn
              have HXS : Aside0 (∀ u, MJ w W1 u K b g n L' (pairOf L') → (fun w' => w'.cell? ⟨g, jn * 2, none⟩ = some (.int .i64 p1) ∧ w'.cell? ⟨g, jn * 2 + 1, none⟩ = some (.int .i64 p2)) u) := ⟨fun u h => by
                obtain ⟨c0, c1, _, _⟩ := HCE.out u h
                exact ⟨c0, c1⟩⟩
              go_upto_region 29 with fail
              have HSp := Aside0.mk (HM5.out.below (Below.refl _ _).drew)
              go_region_held3 (fun w' => w'.cell? ⟨g, jn * 2, none⟩ = some (.int .i64 p1) ∧ w'.cell? ⟨g, jn * 2 + 1, none⟩ = some (.int .i64 p2))
                (first | exact HXS.out _ HSp.out | assumption)
                (first | (go_at_call 60; (with_reducible refine (HHD.out _ HSp.out).mono ?_); rintro e u9 ⟨rfl, h⟩; have HX := Aside0.mk (HSp.out.below h); clear HSp h; have HSp := HX; clear HX; have hk := HXS.out _ HSp.out))
              all_goals
                clear hk
                obtain ⟨c0, c1, f0, f1⟩ := HCE.out _ HSp.out
                obtain ⟨d0, d1, d2, d3, d4⟩ := HBO.out _ _ _ HSp.out
                by_cases h1 : p1 = v
                · have h1' : (p1 == v) = true := by simpa using h1
                  by_cases h2 : p2 = d
                  · have h2' : (p2 == d) = true := by simpa using h2
                    rw [h1', h2', if_pos (by rfl)] at HCN
                    go_wp2_with fail
                    go_quiet (fail)
                    rename_i nq
                    have HM6 := Aside0.mk (HSp.out.below (pw_below_drewN (Below.refl _ _) nq))
                    go_wp2_with fail
                    go_roundw
                    case rel => exact ⟨jn, HJ1.out.2, by go_num, by rw [HCN.out]; go_num, HM6⟩
                    case measure => have := HJ.out; simp [intOf]; omega
                  · have h2' : (p2 == d) = false := by simpa using h2
                    rw [h1', h2', if_neg (by simp)] at HCN
                    go_wp2_with fail
                    go_quiet (fail)
                    rename_i nq
                    have HM6 := Aside0.mk (HSp.out.below (pw_below_drewN (Below.refl _ _) nq))
                    go_wp2_with fail
                    go_roundw
                    case rel => exact ⟨jn, HJ1.out.2, by go_num, by rw [HCN.out]; rfl, HM6⟩
                    case measure => have := HJ.out; simp [intOf]; omega
                · have h1' : (p1 == v) = false := by simpa using h1
                  rw [h1', Bool.false_and, if_neg (by simp)] at HCN
                  go_wp2_with fail
                  go_quiet (fail)
                  rename_i nq
                  have HM6 := Aside0.mk (HSp.out.below (pw_below_drewN (Below.refl _ _) nq))
                  go_wp2_with fail
                  go_roundw
                  case rel => exact ⟨jn, HJ1.out.2, by go_num, by rw [HCN.out]; rfl, HM6⟩
                  case measure => have := HJ.out; simp [intOf]; omega
            · obtain rfl : j = n := by omega
              have HMJ := Aside0.mk (fun u => maj_of hn1 (show j ≤ 64 by omega) u)
              obtain ⟨dn, hdn⟩ : ∃ dn, L'.dec = dn := ⟨_, rfl⟩
              have hr := HF.out.dec
              have hold := HF.out.old
              have hgot := HF.out.got
              have HD2 := Aside0.mk HM5.out.decided
              have hl0 := HL0.out
              rw [HDC.out] at hr hold
              rw [hdn] at hr hold HD2
              rw [hnn] at hgot
              obtain ⟨d0, d1, d2, d3, d4⟩ := HBO.out _ _ _ HM5.out
              obtain ⟨cm, hcm⟩ : ∃ cm, countN (goodI L' v d) j = cm := ⟨_, rfl⟩
              obtain ⟨mj, hmj⟩ : ∃ mj, j / 2 + 1 = mj := ⟨_, rfl⟩
              rw [hcm, hmj] at hgot
              rw [hmj] at HMJ
              rw [hcm]
              have he2 : (er == er) = true := by simp
              have hxs : (k : Int) < (xs.length : Int) := by omega
              clear hcm hmj hdn
              cases dc with
              | true =>
                obtain ⟨hdn, hdat⟩ := hold rfl
                subst hdn
                obtain rfl : r = false := hr
                simp only [if_true] at hl0 HD2
                have HS54 : Aside0 (∀ u A6 c6 l6, l6 = L'.data → Given u A6 c6 l6 → MJ w W1 u K b g j L' (pairOf L') → Calls Try.prog 54 #[.slice A6 l6.length c6, .slice A0 l0.length c0] u fun e v => e = .returned (.bool true) ∧ Below u.heap.size u v) := ⟨fun u A6 c6 l6 h1 h2 h3 => by
                  subst h1
                  have h4 := HWAS.out u _ _ h3
                  rw [hl0, ← hdat] at h4 ⊢
                  exact same_selfB h2.atB h4.atB⟩
                clear hgot hold hl0 hdat
                go_wp2_with (first
                  | (go_at_call 53; (with_reducible refine HD2.out.mono ?_); rintro e u6 ⟨A6, c6, l6, rfl, hb, hr6, hl6⟩; have HM6 := Aside0.mk (HM5.out.below hb); have HG6 := Aside0.mk (given_of_row hr6); have HL6 := Aside0.mk hl6; clear hb hr6 hl6; obtain ⟨d0, d1, d2, d3, d4⟩ := HBO.out _ _ _ HM6.out)
                  | (go_at_call 35; (with_reducible refine (HMJ.out _).mono ?_); rintro e u ⟨rfl, rfl⟩)
                  | (go_at_call 54; (with_reducible refine (HS54.out _ _ _ _ HL6.out HG6.out HM6.out).mono ?_); rintro e u7 ⟨rfl, hb⟩; have HX := Aside0.mk (HM6.out.below hb); clear HM6 HG6 hb; have HM6 := HX; clear HX; obtain ⟨d0, d1, d2, d3, d4⟩ := HBO.out _ _ _ HM6.out)
                  | (go_at_call 51; (with_reducible refine (HHC2.out _ HM6.out).mono ?_); rintro e u8 ⟨rfl, h⟩; have HX := Aside0.mk h; clear HM6 h; have HM6 := HX; clear HX))
                all_goals
                  go_roundw
                  case rel => exact ⟨k + 1, L', _, by omega, by go_num, rfl, ⟨HUN.out _ _ _ HM6.out⟩⟩
                  case measure => simp [intOf]; omega
              | false =>
                clear hold hl0
                cases dn with
                | true =>
                  obtain rfl : r = true := hr
                  obtain ⟨he, hmc, hdat⟩ := hgot rfl
                  subst he
                  have hmc' : (mj : Int) ≤ (cm : Int) := by omega
                  simp only [if_true] at HD2
                  have HS54 : Aside0 (∀ u A6 c6 l6, l6 = L'.data → Given u A6 c6 l6 → MJ w W1 u K b g j L' (pairOf L') → Calls Try.prog 54 #[.slice A6 l6.length c6, .slice A ln cx] u fun e v => e = .returned (.bool true) ∧ Below u.heap.size u v) := ⟨fun u A6 c6 l6 h1 h2 h3 => by
                    subst h1
                    have h4 := HX4.out u h3.hb
                    rw [← HLN.out, hdat] at *
                    exact same_selfB h2.atB h4.atB⟩
                  clear hdat hmc
                  go_wp2_with (first
                    | (go_at_call 53; (with_reducible refine HD2.out.mono ?_); rintro e u6 ⟨A6, c6, l6, rfl, hb, hr6, hl6⟩; have HM6 := Aside0.mk (HM5.out.below hb); have HG6 := Aside0.mk (given_of_row hr6); have HL6 := Aside0.mk hl6; clear hb hr6 hl6; obtain ⟨d0, d1, d2, d3, d4⟩ := HBO.out _ _ _ HM6.out)
                    | (go_at_call 35; (with_reducible refine (HMJ.out _).mono ?_); rintro e u ⟨rfl, rfl⟩)
                    | (go_at_call 54; (with_reducible refine (HS54.out _ _ _ _ HL6.out HG6.out HM6.out).mono ?_); rintro e u7 ⟨rfl, hb⟩; have HX := Aside0.mk (HM6.out.below hb); clear HM6 HG6 hb; have HM6 := HX; clear HX; obtain ⟨d0, d1, d2, d3, d4⟩ := HBO.out _ _ _ HM6.out)
                    | (go_at_call 51; (with_reducible refine (HHC2.out _ HM6.out).mono ?_); rintro e u8 ⟨rfl, h⟩; have HX := Aside0.mk h; clear HM6 h; have HM6 := HX; clear HX))
                  all_goals
                    go_roundw
                    case rel => exact ⟨k + 1, L', _, by omega, by go_num, rfl, ⟨HUN.out _ _ _ HM6.out⟩⟩
                    case measure => simp [intOf]; omega
                | false =>
                  obtain rfl : r = false := hr
                  clear hgot
                  go_wp2_with (first
                    | (go_at_call 53; (with_reducible refine HD2.out.mono ?_); rintro e u6 ⟨A6, c6, l6, rfl, hb, hr6, hl6⟩; have HM6 := Aside0.mk (HM5.out.below hb); have HG6 := Aside0.mk (given_of_row hr6); have HL6 := Aside0.mk hl6; clear hb hr6 hl6; obtain ⟨d0, d1, d2, d3, d4⟩ := HBO.out _ _ _ HM6.out)
                    | (go_at_call 35; (with_reducible refine (HMJ.out _).mono ?_); rintro e u ⟨rfl, rfl⟩)
                    | (go_at_call 51; (with_reducible refine (HHC2.out _ HM6.out).mono ?_); rintro e u8 ⟨rfl, h⟩; have HX := Aside0.mk h; clear HM6 h; have HM6 := HX; clear HX))
                  all_goals
                    go_roundw
                    case rel => exact ⟨k + 1, L', _, by omega, by go_num, rfl, ⟨HUN.out _ _ _ HM6.out⟩⟩
                    case measure => simp [intOf]; omega
      · obtain rfl : k = xs.length := by omega
        go_wp2
        go_ret
        exact ⟨rfl, HM.out.hb⟩
theorem learnMajority_walk (y0 : Int) (a : Option Addr) (len c : Nat) (xs : List Wd) (w : World) (_ : (Lit.int .i64 y0).wf = true) (hW : IsWords w a len c xs) :
    Calls Try.prog 17 #[.int .i64 y0, .slice a len c] w fun e w' => e = .returned (.bool true) ∧ Below w.heap.size w w' := by
  obtain rfl := hW.1
  exact learnMajority_core y0 a c xs w hW
end Go.Proofs.Ytheafmjdncmpoaa
