/-
  LearnSoon, walked and answered.
-/
import Derived.Test.YtheafmjdncmpoaaLrnP
import Derived.Test.YtheafmjdncmpoaaQuoI
namespace Go.Proofs.Ytheafmjdncmpoaa
set_option linter.unusedSimpArgs false
set_option linter.unusedVariables false
open Go.RowKit Go.Proofs.YtheafmjdncmpoaaW.PrintWords Go.Proofs.YtheafmjdncmpoaaW.PrintMore

theorem Given.bytes {w : World} {A : Option Addr} {c : Nat} {l : List Int} (h : Given w A c l) : BytesAt w A c l := h.1
theorem same_self {A1 A2 : Option Addr} {c1 c2 : Nat} {l : List Int} {w : World} (h1 : BytesAt w A1 c1 l) (h2 : BytesAt w A2 c2 l) : Calls Try.prog 54 #[.slice A1 l.length c1, .slice A2 l.length c2] w fun e w' => e = .returned (.bool true) ∧ Below w.heap.size w w' := by
  have := same_bytes h1 h2
  rwa [sameB_refl] at this
/-- the law's learner and its list of who was heard -/
structure SI (w wr : World) (b g c n : Nat) (sl sr : List Bool) (v : Int) (x : List Int) : Prop where
  h : LAt wr w.heap.size (fun k => w.heap.size ≤ k ∧ k ≠ g) b (soonL n sl v x)
  r : Kd.bool.R 4 wr w.heap.size (fun k => k = g) (.slice (some ⟨g, 0, none⟩) sr.length c) sr
  hb : Below w.heap.size w wr
  hl : sl.length = n + 1
  hr : sr.length = n + 1
section
variable {w wr u : World} {b g c n : Nat} {sl sr : List Bool} {v : Int} {x : List Int}
theorem SI.below (h : SI w wr b g c n sl sr v x) (hb : Below wr.heap.size wr u) : SI w u b g c n sl sr v x := ⟨h.h.below hb, Kd.R_below h.r hb, below_step h.hb hb, h.hl, h.hr⟩
theorem SI.lt (h : SI w wr b g c n sl sr v x) : g < wr.heap.size := Kd.R_lt h.r g rfl
theorem SI.cell (h : SI w wr b g c n sl sr v x) {i : Nat} (hi : i ≤ n) : wr.cell? ⟨g, i, none⟩ = some (.bool (sr.getD i false)) ∧ wr.frozen? ⟨g, i, none⟩ = false := by
  have := Kd.R_cell false h.r (i : Int) (by omega) (by have := h.hr; omega)
  rw [Int.toNat_natCast] at this
  simpa [rdOf] using this
theorem SI.store (h : SI w wr b g c n sl sr v x) (i : Nat) : SI w (wr.setCell ⟨g, i, none⟩ (.bool true)) b g c n sl (sr.set i true) v x := by
  have hg : w.heap.size ≤ g := by
    obtain ⟨inner, ho⟩ := Kd.R_own h.r
    exact own_base ho g rfl
  have hr := (Kd.R_put h.r (i : Int) true).1
  rw [Int.toNat_natCast] at hr
  refine ⟨h.h.move fun k hk _ => Below.heap_setCell wr _ _ k hk.2, by rw [List.length_set]; exact hr, h.hb.setCell hg _, h.hl, by rw [List.length_set]; exact h.hr⟩
theorem SI.hear (h : SI w wr b g c n sl sr v x) (hn : 1 ≤ n ∧ n ≤ 64) (hv : 1 ≤ v ∧ v ≤ 1000) (hx : x.length ≤ 4000) {k : Nat} (h1 : 1 ≤ k) (h2 : k ≤ n) {A : Option Addr} {ca : Nat} (hg : Given wr A ca x) :
    Calls Try.prog 51 #[.pointer (some ⟨b, 0, none⟩), .int .i64 k, .agg #[.int .i64 v, .int .i64 1], .slice A x.length ca] wr fun e u => e = .returned (.tuple #[.bool (!sl.getD k false && decide (cntB n (sl.set k true) = n / 2 + 1)), .int .i64 0]) ∧ SI w u b g c n (sl.set k true) sr v x := by
  have := Hear_any (k := k) (n := v) (d := 1) h.h h.hb.size hn hg
  rw [hear_soon h.hl hn.2 h1 h2 hv hx] at this
  refine this.mono fun e u ⟨e1, e2, e3⟩ => ⟨e1, e3.mono (fun k hk => ?_), Kd.R_step h.r (fun k hk hlt => e2.block k hlt (fun e => e.2 hk)), h.hb.trans (e2.below (fun k hk => hk.1) h.hb.size), by rw [List.length_set]; exact h.hl, h.hr⟩
  rcases hk with hk | hk
  · exact hk
  · have := h.lt
    have := h.hb.size
    exact ⟨by omega, by omega⟩
theorem SI.decided (h : SI w wr b g c n sl sr v x) (hn : 1 ≤ n) (hx : x.length ≤ 4000) :
    Calls Try.prog 53 #[.pointer (some ⟨b, 0, none⟩)] wr fun e u => ∃ A ca l, e = .returned (.tuple #[.slice A l ca, .bool (decide (n / 2 + 1 ≤ cntB n sl))]) ∧ Below wr.heap.size wr u ∧ (n / 2 + 1 ≤ cntB n sl → l = x.length ∧ Given u A ca x) := by
  have hlen : (soonL n sl v x).data.length ≤ 100000 := by unfold soonL; simp only; split; (omega); (simp)
  refine (decided_any h.h hn hlen).mono fun e u ⟨A, ca, l, e1, e2, e3, e4⟩ => ⟨A, ca, l.length, e1, e2, fun hm => ?_⟩
  have hd : (soonL n sl v x).dec = true := by unfold soonL; simpa using hm
  have hda : (soonL n sl v x).data = x := by unfold soonL; simp only; rw [if_pos hm]
  rw [hd, if_pos rfl, hda] at e4
  subst e4
  exact ⟨rfl, given_of_row e3⟩
end
theorem si_start {w u w1 : World} {b n : Nat} {v1 : Value} (v : Int) (x : List Int) (hO : Kd.bool.R 4 w1 w.heap.size (fun k => u.heap.size ≤ k) v1 (List.replicate ((n : Int) + 1).toNat false)) (hG : u.grownBy w1 none)
    (hL : LB w u b ⟨n, fun _ => hd0, false, []⟩) (hB : Below w.heap.size w w1) (hn : 1 ≤ n) :
    ∃ g c, v1 = .slice (some ⟨g, 0, none⟩) (n + 1) c ∧ SI w w1 b g c n (whoK n [] 0) (whoK n [] 0) v x := by
  rw [show ((n : Int) + 1).toNat = n + 1 by omega] at hO
  have hO' := hO
  obtain ⟨h0, inner, ho, hr⟩ := hO
  rcases ho.2 with ⟨rfl, hz⟩ | ⟨g, cap, cur, rfl, hg, _, _, hm, _⟩
  · simp at hz
  · have hug : u.heap.size ≤ g := h0 g rfl
    refine ⟨g, cap, by simp, ?_, ?_, hB, by simp [whoK], by simp [whoK]⟩
    · have e : soonL n (whoK n [] 0) v x = ⟨n, fun _ => hd0, false, []⟩ := by
        have hget : ∀ k, (whoK n [] 0).getD k false = false := fun k => by
          unfold whoK
          rw [List.getD_eq_getElem?_getD, List.getElem?_replicate]
          split <;> rfl
        have hc : cntB n (whoK n [] 0) = 0 := by
          unfold cntB
          rw [countN_congr (Q := fun _ => false) (fun i _ => hget (i + 1))]
          have h0 : ∀ n, countN (fun _ => false) n = 0 := fun n => by induction n with
            | zero => rfl
            | succ n ih => unfold countN; rw [ih]; rfl
          exact h0 n
        unfold soonL
        rw [hc]
        simp only [Lr.mk.injEq, true_and]
        exact ⟨funext fun k => by rw [hget k]; rfl, by simp, by rw [if_neg (by omega)]⟩
      rw [e]
      obtain ⟨cs, vs, vd, k1, k2, k3, k4, k5, k6, k7, k8, k9⟩ := hL.h
      have hbnd : ∀ {v' xs}, kB.R 5 u w.heap.size (fun k => w.heap.size ≤ k) v' xs → kB.R 5 w1 w.heap.size (fun k => w.heap.size ≤ k ∧ k ≠ g) v' xs := fun hR => by
        refine Kd.R_mono (Kd.R_grown (Kd.R_bound hR) hG (fun k _ => by simp)) fun k hk => ⟨hk.1, ?_⟩
        have := hk.2.2.1
        omega
      have hbu := (Array.getElem?_eq_some_iff.1 k3).1
      exact ⟨cs, vs, vd, ⟨k1, by omega⟩, k2, by rw [hG.block b hbu (by simp)]; exact k3, k4, fun i hi => ⟨(k5 i hi).1, (k5 i hi).2.1, (k5 i hi).2.2.1, hbnd (k5 i hi).2.2.2⟩, k6, k7, k8, hbnd k9⟩
    · exact Kd.R_mono (Kd.R_tight rfl hO') (fun k hk => (Option.some.inj hk))
set_option maxHeartbeats 12800000 in
set_option maxRecDepth 100000 in
theorem learnSoon_core (y0 : Int) (A1 : Option Addr) (c1 : Nat) (who : List Int) (z : Int) (A2 : Option Addr) (c2 : Nat) (x : List Int) (w : World) (hr : Kd.C kI w A1 who.length who) (hg : Given w A2 c2 x) :
    Calls Try.prog 13 #[.int .i64 y0, .slice A1 who.length c1, .int .i64 z, .slice A2 x.length c2] w fun e w' => e = .returned (.bool true) ∧ Below w.heap.size w w' := by
  have hl1 := hr.2.1
  have hl2 := hg.1.1.2.1
  have HR := Aside0.mk hr
  have HG := Aside0.mk hg
  clear hr hg
  by_cases g1 : who.length ≤ 100
  · by_cases g2 : x.length ≤ 4000
    · have hp := Int.emod_nonneg y0 (show (64 : Int) ≠ 0 by omega)
      have hp2 := Int.emod_lt_of_pos y0 (show (0 : Int) < 64 by omega)
      have HPK := Aside0.mk (fun u => Pick_any y0 64 u (by omega) (by omega))
      obtain ⟨y, hy⟩ := Int.eq_ofNat_of_zero_le hp
      rw [hy] at HPK hp2
      clear hp hy
      obtain ⟨n, hN⟩ : ∃ n : Nat, 1 + (y : Int) = n := ⟨y + 1, by omega⟩
      have hn1 : 1 ≤ n := by omega
      have hn2 : n ≤ 64 := by omega
      clear hp2
      have hv := Int.emod_nonneg z (show (1000 : Int) ≠ 0 by omega)
      have hv2 := Int.emod_lt_of_pos z (show (0 : Int) < 1000 by omega)
      have HPV := Aside0.mk (fun u => Pick_any z 1000 u (by omega) (by omega))
      obtain ⟨vz, hvz⟩ : ∃ vz, z % 1000 = vz := ⟨_, rfl⟩
      rw [hvz] at HPV hv hv2
      clear hvz
      obtain ⟨v, hV⟩ : ∃ v : Int, 1 + vz = v := ⟨_, rfl⟩
      have HVB : Aside0 (1 ≤ v ∧ v ≤ 1000) := ⟨by omega⟩
      have HNB : Aside0 (1 ≤ n ∧ n ≤ 64) := ⟨by omega⟩
      have HXB : Aside0 (x.length ≤ 4000) := ⟨g2⟩
      have HNEW := Aside0.mk (fun u (hb : Below w.heap.size w u) => newL n 1 w u hb ⟨hn1, hn2⟩ (by decide))
      have HMJ := Aside0.mk (fun u => maj_of hn1 hn2 u)
      obtain ⟨mj, hmj⟩ : ∃ mj, n / 2 + 1 = mj := ⟨_, rfl⟩
      rw [hmj] at HMJ
      have HMJE := Aside0.mk hmj
      have hmj1 : 1 ≤ mj := by omega
      clear hmj
      have HBA := Aside0.mk b_any
      go_enter Try.func13, Try.ntmps13
      go_wp2_with (first
        | (go_at_call 49; (with_reducible refine (awake49 _).mono ?_); rintro e u ⟨rfl, hb⟩; have HB := Aside0.mk hb; clear hb)
        | (go_at_call 19; (with_reducible refine (HPK.out _).mono ?_); rintro e u ⟨rfl, rfl⟩)
        | (go_at_call 50; (with_reducible refine (HNEW.out _ HB.out).mono ?_); rintro e u2 ⟨b, rfl, hl⟩; have HL := Aside0.mk hl; clear hl)
        | ((with_reducible refine gate_dst (N := 47) rfl ?_); refine Kd.R_make Kd.bool (w0 := w) w.heap.size 4 rfl (N := 47) rfl 63 _ _ rfl ((n : Int) + 1) rfl rfl Try.underlying63 (.bool false) 1 info4 rfl (by decide) (by omega) false (ok := fun k => u2.heap.size ≤ k) (okp := fun _ => False) rfl (fun _ h => h.elim) (Nat.le_refl _) (by omega) (by omega) HL.out.hb HL.out.hb.size ?_; intro v1 w1 ho hb hg hat; have HO := Aside0.mk ho; have HBB := Aside0.mk hb; have HGR := Aside0.mk hg; clear ho hb hg hat))
      obtain ⟨g, c, hv1, hsi⟩ := si_start v x HO.out HGR.out HL.out HBB.out hn1
      have HSI : Aside0 (SI w w1 b g c n (whoK n who 0) (whoK n who 0) v x) := ⟨hsi⟩
      subst hv1
      clear hsi HO HGR HL HBB HB HNEW HPK hN
      go_loopw [13, 14, 15, 16, 17, 18, 19, 20] (fun m i s15 s16 s17 s18 s19 s20 wr => ∃ k : Nat, k ≤ who.length ∧ i = .int .i64 k ∧ m = .int .i64 (cntB n (whoK n who k) : Nat) ∧ Aside0 (SI w wr b g c n (whoK n who k) (whoK n who k) v x)) (fun _ i _ _ _ _ _ _ _ => who.length - (intOf i).toNat)
      case atStart =>
        refine ⟨0, by omega, rfl, ?_, HSI⟩
        have h0 : cntB n (whoK n who 0) = 0 := by
          unfold cntB whoK
          rw [countN_congr (Q := fun _ => false) (fun i _ => by rw [List.getD_eq_getElem?_getD, List.getElem?_replicate]; split <;> rfl)]
          have h0 : ∀ n, countN (fun _ => false) n = 0 := fun n => by induction n with
            | zero => rfl
            | succ n ih => unfold countN; rw [ih]; rfl
          exact h0 n
        rw [h0]
        rfl
      case round =>
        clear HSI
        obtain ⟨k, hk, rfl, rfl, HSI⟩ := hrel
        by_cases hgo : k < who.length
        · obtain ⟨ad, rfl, hcell⟩ := cell_get (Kd.C_below HR.out HSI.out.hb) k hgo
          have hp := Int.emod_nonneg (who.getD k 0) (show (n : Int) ≠ 0 by omega)
          have hp2 := Int.emod_lt_of_pos (who.getD k 0) (show (0 : Int) < n by omega)
          obtain ⟨xk, hx⟩ : ∃ xk, who.getD k 0 = xk := ⟨_, rfl⟩
          have HWX : Aside0 (whoK n who (k + 1) = (whoK n who k).set ((xk % (n : Int)).toNat + 1) true) := ⟨by rw [← hx]; rfl⟩
          rw [hx] at hcell hp hp2
          clear hx
          have HPKK := Aside0.mk (fun u => Pick_any xk n u (by omega) (by omega))
          obtain ⟨yk, hy⟩ := Int.eq_ofNat_of_zero_le hp
          rw [hy] at HPKK HWX hp2
          clear hp hy
          simp only [Int.toNat_natCast] at HWX
          obtain ⟨kk, hkk⟩ : ∃ kk, yk + 1 = kk := ⟨_, rfl⟩
          rw [hkk] at HWX
          have hK : 1 + (yk : Int) = (kk : Int) := by omega
          have hk1 : 1 ≤ kk := by omega
          have hk2 : kk ≤ n := by omega
          clear hkk hp2
          have hcl : cntB n (whoK n who k) ≤ n := countN_le _ _
          obtain ⟨sl, hsl⟩ : ∃ sl, whoK n who k = sl := ⟨_, rfl⟩
          have hlen : sl.length = n + 1 := by rw [← hsl]; exact whoK_len _ _ _
          rw [hsl] at HWX HSI hcl ⊢
          clear hsl
          have hset := cntB_set (n := n) (seen := sl) (k := kk) hlen hk1 hk2
          have hsame := set_seen (seen := sl) (k := kk) (by omega)
          obtain ⟨q0, q1⟩ := HSI.out.cell (i := kk) hk2
          have kI0 : (0 : Int) ≤ (kk : Int) := by omega
          have kI1 : (kk : Int) < ((n + 1 : Nat) : Int) := by omega
          have HST := Aside0.mk (HSI.out.store kk)
          have HGS : Aside0 (Given (wr.setCell ⟨g, kk, none⟩ (.bool true)) A2 c2 x) := ⟨(HG.out.below HSI.out.hb).1.set _ (fun z e => by rw [q0] at e; simp at e) _, HG.out.2⟩
          have HH := Aside0.mk (fun u (hb : Below (wr.setCell ⟨g, kk, none⟩ (.bool true)).heap.size (wr.setCell ⟨g, kk, none⟩ (.bool true)) u) => (HST.out.below hb).hear HNB.out HVB.out HXB.out hk1 hk2 (HGS.out.below hb))
          have HD := Aside0.mk (fun u (h : SI w u b g c n (sl.set kk true) (sl.set kk true) v x) => h.decided HNB.out.1 HXB.out)
          rw [HMJE.out] at HH HD
          obtain ⟨cn, hcn⟩ : ∃ cn, cntB n sl = cn := ⟨_, rfl⟩
          obtain ⟨cm, hcm⟩ : ∃ cm, cntB n (sl.set kk true) = cm := ⟨_, rfl⟩
          have HCM := Aside0.mk hcm
          rw [hcn, hcm] at hset
          rw [hcm] at HH HD
          rw [hcn] at hcl ⊢
          cases hs : sl.getD kk false with
          | true =>
            have hcc : cm = cn := by rw [hsame hs] at hcm; omega
            rw [hs] at q0 HH
            clear hs hset hsame hcm hcn
            simp only [Bool.not_true, Bool.false_and] at HH
            subst hcc
            have hsplit : (cm : Int) < (mj : Int) ∨ (mj : Int) ≤ (cm : Int) := by omega
            rcases hsplit with h6 | h6
            · rw [show decide (mj ≤ cm) = false by simp; omega] at HD
              go_wp2_with (first
                | (go_at_call 19; (with_reducible refine (HPKK.out _).mono ?_); rintro e u ⟨rfl, rfl⟩)
                | (go_at_call 19; (with_reducible refine (HPV.out _).mono ?_); rintro e u ⟨rfl, rfl⟩)
                | (go_at_call 35; (with_reducible refine (HMJ.out _).mono ?_); rintro e u ⟨rfl, rfl⟩)
                | (go_at_call 52; (with_reducible refine (HBA.out _ _ _).mono ?_); rintro e u4 ⟨rfl, hb⟩; have HB4 := Aside0.mk hb; clear hb)
                | (go_at_call 51; (with_reducible refine (HH.out _ HB4.out).mono ?_); rintro e u5 ⟨rfl, hsi⟩; have HS5 := Aside0.mk hsi; clear hsi)
                | (go_at_call 53; (with_reducible refine (HD.out _ HS5.out).mono ?_); rintro e u6 ⟨A6, c6, l6, rfl, hb, hsame⟩; have HS6 := Aside0.mk (HS5.out.below hb); have HSAME := Aside0.mk hsame; clear hb hsame)
                | (go_at_call 54; (obtain ⟨rfl, hg6⟩ := HSAME.out HLE.out); (with_reducible refine (same_self hg6.bytes (HG.out.below HS6.out.hb).bytes).mono ?_); rintro e u7 ⟨rfl, hb⟩; have HX := Aside0.mk (HS6.out.below hb); clear HS6 hb hg6; have HS6 := HX; clear HX))
              go_roundw
              case rel => exact ⟨k + 1, by omega, by go_num, by rw [HWX.out, HCM.out], by rw [HWX.out]; exact HS6⟩
              case measure => simp [intOf]; omega
            · rw [show decide (mj ≤ cm) = true by simp; omega] at HD
              have HLE : Aside0 (mj ≤ cm) := ⟨by omega⟩
              go_wp2_with (first
                | (go_at_call 19; (with_reducible refine (HPKK.out _).mono ?_); rintro e u ⟨rfl, rfl⟩)
                | (go_at_call 19; (with_reducible refine (HPV.out _).mono ?_); rintro e u ⟨rfl, rfl⟩)
                | (go_at_call 35; (with_reducible refine (HMJ.out _).mono ?_); rintro e u ⟨rfl, rfl⟩)
                | (go_at_call 52; (with_reducible refine (HBA.out _ _ _).mono ?_); rintro e u4 ⟨rfl, hb⟩; have HB4 := Aside0.mk hb; clear hb)
                | (go_at_call 51; (with_reducible refine (HH.out _ HB4.out).mono ?_); rintro e u5 ⟨rfl, hsi⟩; have HS5 := Aside0.mk hsi; clear hsi)
                | (go_at_call 53; (with_reducible refine (HD.out _ HS5.out).mono ?_); rintro e u6 ⟨A6, c6, l6, rfl, hb, hsame⟩; have HS6 := Aside0.mk (HS5.out.below hb); have HSAME := Aside0.mk hsame; clear hb hsame)
                | (go_at_call 54; (obtain ⟨rfl, hg6⟩ := HSAME.out HLE.out); (with_reducible refine (same_self hg6.bytes (HG.out.below HS6.out.hb).bytes).mono ?_); rintro e u7 ⟨rfl, hb⟩; have HX := Aside0.mk (HS6.out.below hb); clear HS6 hb hg6; have HS6 := HX; clear HX))
              go_roundw
              case rel => exact ⟨k + 1, by omega, by go_num, by rw [HWX.out, HCM.out], by rw [HWX.out]; exact HS6⟩
              case measure => simp [intOf]; omega
          | false =>
            have hcc : cm = cn + 1 := hset hs
            rw [hs] at q0 HH
            clear hs hset hsame hcm hcn
            simp only [Bool.not_false, Bool.true_and] at HH
            subst hcc
            have hsplit : (cn : Int) + 1 < (mj : Int) ∨ (cn : Int) + 1 = (mj : Int) ∨ (mj : Int) < (cn : Int) + 1 := by omega
            rcases hsplit with h6 | h6 | h6
            · have h7 : ((cn : Int) + 1 == (mj : Int)) = false := by simp; omega
              rw [show decide (cn + 1 = mj) = false by simp; omega] at HH
              rw [show decide (mj ≤ cn + 1) = false by simp; omega] at HD
              go_wp2_with (first
                | (go_at_call 19; (with_reducible refine (HPKK.out _).mono ?_); rintro e u ⟨rfl, rfl⟩)
                | (go_at_call 19; (with_reducible refine (HPV.out _).mono ?_); rintro e u ⟨rfl, rfl⟩)
                | (go_at_call 35; (with_reducible refine (HMJ.out _).mono ?_); rintro e u ⟨rfl, rfl⟩)
                | (go_at_call 52; (with_reducible refine (HBA.out _ _ _).mono ?_); rintro e u4 ⟨rfl, hb⟩; have HB4 := Aside0.mk hb; clear hb)
                | (go_at_call 51; (with_reducible refine (HH.out _ HB4.out).mono ?_); rintro e u5 ⟨rfl, hsi⟩; have HS5 := Aside0.mk hsi; clear hsi)
                | (go_at_call 53; (with_reducible refine (HD.out _ HS5.out).mono ?_); rintro e u6 ⟨A6, c6, l6, rfl, hb, hsame⟩; have HS6 := Aside0.mk (HS5.out.below hb); have HSAME := Aside0.mk hsame; clear hb hsame)
                | (go_at_call 54; (obtain ⟨rfl, hg6⟩ := HSAME.out HLE.out); (with_reducible refine (same_self hg6.bytes (HG.out.below HS6.out.hb).bytes).mono ?_); rintro e u7 ⟨rfl, hb⟩; have HX := Aside0.mk (HS6.out.below hb); clear HS6 hb hg6; have HS6 := HX; clear HX))
              go_roundw
              case rel => exact ⟨k + 1, by omega, by go_num, by rw [HWX.out, HCM.out]; go_num, by rw [HWX.out]; exact HS6⟩
              case measure => simp [intOf]; omega
            · have h7 : ((cn : Int) + 1 == (mj : Int)) = true := by simpa using h6
              have h8 : (mj : Int) ≤ (cn : Int) + 1 := by omega
              rw [show decide (cn + 1 = mj) = true by simp; omega] at HH
              rw [show decide (mj ≤ cn + 1) = true by simp; omega] at HD
              have HLE : Aside0 (mj ≤ cn + 1) := ⟨by omega⟩
              clear h6
              go_wp2_with (first
                | (go_at_call 19; (with_reducible refine (HPKK.out _).mono ?_); rintro e u ⟨rfl, rfl⟩)
                | (go_at_call 19; (with_reducible refine (HPV.out _).mono ?_); rintro e u ⟨rfl, rfl⟩)
                | (go_at_call 35; (with_reducible refine (HMJ.out _).mono ?_); rintro e u ⟨rfl, rfl⟩)
                | (go_at_call 52; (with_reducible refine (HBA.out _ _ _).mono ?_); rintro e u4 ⟨rfl, hb⟩; have HB4 := Aside0.mk hb; clear hb)
                | (go_at_call 51; (with_reducible refine (HH.out _ HB4.out).mono ?_); rintro e u5 ⟨rfl, hsi⟩; have HS5 := Aside0.mk hsi; clear hsi)
                | (go_at_call 53; (with_reducible refine (HD.out _ HS5.out).mono ?_); rintro e u6 ⟨A6, c6, l6, rfl, hb, hsame⟩; have HS6 := Aside0.mk (HS5.out.below hb); have HSAME := Aside0.mk hsame; clear hb hsame)
                | (go_at_call 54; (obtain ⟨rfl, hg6⟩ := HSAME.out HLE.out); (with_reducible refine (same_self hg6.bytes (HG.out.below HS6.out.hb).bytes).mono ?_); rintro e u7 ⟨rfl, hb⟩; have HX := Aside0.mk (HS6.out.below hb); clear HS6 hb hg6; have HS6 := HX; clear HX))
              go_roundw
              case rel => exact ⟨k + 1, by omega, by go_num, by rw [HWX.out, HCM.out]; go_num, by rw [HWX.out]; exact HS6⟩
              case measure => simp [intOf]; omega
            · have h7 : ((cn : Int) + 1 == (mj : Int)) = false := by simp; omega
              have h8 : (mj : Int) ≤ (cn : Int) + 1 := by omega
              rw [show decide (cn + 1 = mj) = false by simp; omega] at HH
              rw [show decide (mj ≤ cn + 1) = true by simp; omega] at HD
              have HLE : Aside0 (mj ≤ cn + 1) := ⟨by omega⟩
              go_wp2_with (first
                | (go_at_call 19; (with_reducible refine (HPKK.out _).mono ?_); rintro e u ⟨rfl, rfl⟩)
                | (go_at_call 19; (with_reducible refine (HPV.out _).mono ?_); rintro e u ⟨rfl, rfl⟩)
                | (go_at_call 35; (with_reducible refine (HMJ.out _).mono ?_); rintro e u ⟨rfl, rfl⟩)
                | (go_at_call 52; (with_reducible refine (HBA.out _ _ _).mono ?_); rintro e u4 ⟨rfl, hb⟩; have HB4 := Aside0.mk hb; clear hb)
                | (go_at_call 51; (with_reducible refine (HH.out _ HB4.out).mono ?_); rintro e u5 ⟨rfl, hsi⟩; have HS5 := Aside0.mk hsi; clear hsi)
                | (go_at_call 53; (with_reducible refine (HD.out _ HS5.out).mono ?_); rintro e u6 ⟨A6, c6, l6, rfl, hb, hsame⟩; have HS6 := Aside0.mk (HS5.out.below hb); have HSAME := Aside0.mk hsame; clear hb hsame)
                | (go_at_call 54; (obtain ⟨rfl, hg6⟩ := HSAME.out HLE.out); (with_reducible refine (same_self hg6.bytes (HG.out.below HS6.out.hb).bytes).mono ?_); rintro e u7 ⟨rfl, hb⟩; have HX := Aside0.mk (HS6.out.below hb); clear HS6 hb hg6; have HS6 := HX; clear HX))
              go_roundw
              case rel => exact ⟨k + 1, by omega, by go_num, by rw [HWX.out, HCM.out]; go_num, by rw [HWX.out]; exact HS6⟩
              case measure => simp [intOf]; omega
        · obtain rfl : k = who.length := by omega
          go_wp2
          go_ret
          exact ⟨rfl, HSI.out.hb⟩
    · have g3 : (4000 : Int) < (x.length : Int) := by omega
      go_enter Try.func13, Try.ntmps13
      go_wp2_with (go_at_call 49; (with_reducible refine (awake49 _).mono ?_); rintro e u ⟨rfl, hb⟩; have HB := Aside0.mk hb; clear hb)
      go_ret
      exact ⟨rfl, HB.out⟩
  · have g3 : (100 : Int) < (who.length : Int) := by omega
    go_enter Try.func13, Try.ntmps13
    go_wp2_with (go_at_call 49; (with_reducible refine (awake49 _).mono ?_); rintro e u ⟨rfl, hb⟩; have HB := Aside0.mk hb; clear hb)
    go_ret
    exact ⟨rfl, HB.out⟩
theorem isRow_B {w : World} {a : Option Addr} {len cap : Nat} {zs : List Int} (h : IsRow .u8 w a len cap zs) : ∃ l : List Int, l.length = len ∧ Given w a cap l := by
  rcases h with ⟨rfl, rfl, rfl, rfl⟩ | ⟨ad, rfl, hlc, hm, hzl, hc, _⟩
  · exact ⟨[], rfl, ⟨⟨rfl, by simp, fun h => absurd h (by simp)⟩, Nat.le_refl _⟩, fun _ => rfl⟩
  · unfold maxLen at hm
    have hlen : (zs.take len).length = len := by rw [List.length_take]; omega
    refine ⟨zs.take len, hlen, ⟨?_, by omega⟩, fun e => by cases e⟩
    refine C_mkB (by rw [hlen]; omega) fun i hi => ?_
    rw [hlen] at hi
    rw [hc i (by omega), List.getD_eq_getElem?_getD, List.getD_eq_getElem?_getD, List.getElem?_take_of_lt hi]
theorem learnSoon_walk (y0 : Int) (a1 : Option Addr) (n1 c1 : Nat) (z1 : List Int) (z : Int) (a2 : Option Addr) (n2 c2 : Nat) (z2 : List Int) (w : World) (_ : (Lit.int .i64 y0).wf = true) (w1 : IsRow .i64 w a1 n1 c1 z1) (_ : (Lit.int .i64 z).wf = true) (w2 : IsRow .u8 w a2 n2 c2 z2) :
    Calls Try.prog 13 #[.int .i64 y0, .slice a1 n1 c1, .int .i64 z, .slice a2 n2 c2] w fun e w' => e = .returned (.bool true) ∧ Below w.heap.size w w' := by
  obtain ⟨l1, rfl, h1, _⟩ := isRow_C w1
  obtain ⟨l2, rfl, h2⟩ := isRow_B w2
  exact learnSoon_core y0 a1 c1 l1 z a2 c2 l2 w h1 h2
end Go.Proofs.Ytheafmjdncmpoaa
