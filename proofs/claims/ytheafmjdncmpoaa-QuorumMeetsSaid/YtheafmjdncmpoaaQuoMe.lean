/-
  QuorumMeets, walked and answered.
-/
import Derived.Test.YtheafmjdncmpoaaQuoR
import Derived.Test.YtheafmjdncmpoaaQuoKn
import Derived.Test.YtheafmjdncmpoaaQuoI
namespace Go.Proofs.Ytheafmjdncmpoaa
set_option linter.unusedSimpArgs false
set_option linter.unusedVariables false
open Go.RowKit Go.Proofs.YtheafmjdncmpoaaW.PrintWords Go.Proofs.YtheafmjdncmpoaaW.PrintMore

theorem MI.met {w wr : World} {b g c n : Nat} {need : Int} {wq wh : List Bool} (h : MI w wr b g c n need wq wh) (hn : n ≤ 64) (hneed : need ≠ 0) :
    Calls Try.prog 43 #[.pointer (some ⟨b, 0, none⟩)] wr fun e u => e = .returned (.bool (decide (need ≤ (countN (fun i => wq.getD (i + 1) false) n : Nat)))) ∧ Below wr.heap.size wr u := by
  have := Met_any w.heap.size _ b (metS n wq) need wr h.q (by rw [metS_len]; omega) hneed
  rwa [metN_met] at this
theorem MI.lost {w wr : World} {b g c n : Nat} {need : Int} {wq wh : List Bool} (h : MI w wr b g c n need wq wh) (hn : n ≤ 64) (hneed : need ≠ 0) (hle : need ≤ n) :
    Calls Try.prog 44 #[.pointer (some ⟨b, 0, none⟩)] wr fun e u => e = .returned (.bool false) ∧ Below wr.heap.size wr u := by
  have := Lost_any w.heap.size _ b (metS n wq) need wr h.q (by rw [metS_len]; omega) hneed
  rw [keptN_met] at this
  rwa [show decide ((n : Int) < need) = false by simpa using hle] at this
theorem maj_at (n : Nat) (need : Int) (w : World) (h1 : 1 ≤ n) (h2 : n ≤ 64) (h : (n : Int) / 2 + 1 = need) : Calls Try.prog 35 #[.int .i64 n] w fun e w' => e = .returned (.int .i64 need) ∧ w = w' := by
  refine (majority_any n w).mono fun e u ⟨e1, e2⟩ => ⟨?_, e2.symm⟩
  rw [e1, show okNode (n : Int) = true by simp [okNode]; omega, if_pos rfl, h]
set_option maxHeartbeats 6400000 in
set_option maxRecDepth 100000 in
theorem quorumMeets_core (x : Int) (A1 : Option Addr) (c1 : Nat) (l1 : List Int) (A2 : Option Addr) (c2 : Nat) (l2 : List Int) (w : World) (hr1 : Kd.C kI w A1 l1.length l1) (hr2 : Kd.C kI w A2 l2.length l2) (hl1 : l1.length ≤ 9223372036854775807) (hl2 : l2.length ≤ 9223372036854775807) :
    Calls Try.prog 11 #[.int .i64 x, .slice A1 l1.length c1, .slice A2 l2.length c2] w fun e w' => e = .returned (.bool true) ∧ Below w.heap.size w w' := by
  have HR1 := Aside0.mk hr1
  have HR2 := Aside0.mk hr2
  clear hr1 hr2
  by_cases g1 : l1.length ≤ 100
  · by_cases g2 : l2.length ≤ 100
    · have hp := Int.emod_nonneg x (show (64 : Int) ≠ 0 by omega)
      have hp2 := Int.emod_lt_of_pos x (show (0 : Int) < 64 by omega)
      have HPK := Aside0.mk (fun u => Pick_any x 64 u (by omega) (by omega))
      obtain ⟨y, hy⟩ := Int.eq_ofNat_of_zero_le hp
      rw [hy] at HPK hp2
      clear hp hy
      obtain ⟨n, hN⟩ : ∃ n : Nat, 1 + (y : Int) = n := ⟨y + 1, by omega⟩
      have hn1 : 1 ≤ n := by omega
      have hn2 : n ≤ 64 := by omega
      clear hp2
      obtain ⟨need, hneed⟩ : ∃ need, (n : Int) / 2 + 1 = need := ⟨_, rfl⟩
      have HMJ := Aside0.mk (fun u => maj_at n need u hn1 hn2 hneed)
      have hd1 : 1 ≤ need := by omega
      have hd2 : need ≤ n := by omega
      have hd3 : (n : Int) < 2 * need := by omega
      clear hneed
      have HM1 := Aside0.mk (fun u (hb : Below w.heap.size w u) => Met47_any n need A1 c1 l1 u ⟨hn1, hn2⟩ ⟨hd1, hd2⟩ (Kd.C_below HR1.out hb) g1)
      have HM2 := Aside0.mk (fun u (hb : Below w.heap.size w u) => Met47_any n need A2 c2 l2 u ⟨hn1, hn2⟩ ⟨hd1, hd2⟩ (Kd.C_below HR2.out hb) g2)
      have k1 := whoK_len n l1 l1.length
      have k2 := whoK_len n l2 l2.length
      obtain ⟨wh1, e1⟩ : ∃ wh, whoK n l1 l1.length = wh := ⟨_, rfl⟩
      obtain ⟨wh2, e2⟩ : ∃ wh, whoK n l2 l2.length = wh := ⟨_, rfl⟩
      rw [e1] at HM1 k1
      rw [e2] at HM2 k2
      clear e1 e2
      have K1 := Aside0.mk k1
      have K2 := Aside0.mk k2
      clear k1 k2
      go_enter Try.func11, Try.ntmps11
      go_wp2_with (first
        | (go_at_call 10; (with_reducible refine (quorumKnown_walk _).mono ?_); rintro e u ⟨rfl, hb⟩; have HB := Aside0.mk hb; clear hb)
        | (go_at_call 19; (with_reducible refine (HPK.out _).mono ?_); rintro e u ⟨rfl, rfl⟩)
        | (go_at_call 35; (with_reducible refine (HMJ.out _).mono ?_); rintro e u ⟨rfl, rfl⟩)
        | (go_at_call 47; (with_reducible refine (HM1.out _ HB.out).mono ?_); rintro e v1 ⟨b1, g1, z1, rfl, hm⟩; have HI1 := Aside0.mk hm; clear hm HM1)
        | (go_at_call 47; (with_reducible refine (HM2.out _ (HB.out.trans (Below.lower HI1.out.hb HB.out.size))).mono ?_); rintro e v2 ⟨b2, g2, z2, rfl, hm⟩; have HI2 := Aside0.mk hm; clear hm HM2))
      have HA := Aside0.mk (HI1.out.below HI2.out.hb)
      have HBB := Aside0.mk ((HB.out.trans (Below.lower HI1.out.hb HB.out.size)).trans (Below.lower HI2.out.hb (Nat.le_trans HB.out.size HI1.out.hb.size)))
      have HCB := HI2
      clear HI2 HI1 HB
      obtain ⟨P, hP⟩ : ∃ P : Nat → Bool, P = fun i => wh1.getD (i + 1) false := ⟨_, rfl⟩
      obtain ⟨Q, hQ⟩ : ∃ Q : Nat → Bool, Q = fun i => wh2.getD (i + 1) false := ⟨_, rfl⟩
      have HP := Aside0.mk (fun i => congrFun hP i)
      have HQ := Aside0.mk (fun i => congrFun hQ i)
      have HME1 := Aside0.mk (fun v (h : MI u v b1 g1 z1 n need wh1 wh1) => h.met hn2 (by omega))
      have HME2 := Aside0.mk (fun v (h : MI v1 v b2 g2 z2 n need wh2 wh2) => h.met hn2 (by omega))
      have HLO := Aside0.mk (fun v (h : MI u v b1 g1 z1 n need wh1 wh1) => h.lost hn2 (by omega) hd2)
      rw [← hP] at HME1
      rw [← hQ] at HME2
      clear hP hQ
      go_loop [13, 14, 15, 16] (fun a b c i => ∃ k : Nat, k ≤ n ∧ i = .int .i64 ((k : Int) + 1) ∧ a = .int .i64 (countN P k : Nat) ∧ b = .int .i64 (countN Q k : Nat) ∧ c = .int .i64 (countN (fun i => P i && Q i) k : Nat)) (fun _ _ _ i => n + 1 - (intOf i).toNat)
      case atStart => exact ⟨0, by omega, rfl, rfl, rfl, rfl⟩
      case round =>
        obtain ⟨k, hk, rfl, rfl, rfl, rfl⟩ := hrel
        have b1 := countN_le P k
        have b2 := countN_le Q k
        have b3 := countN_le (fun i => P i && Q i) k
        by_cases hgo : k < n
        · have q0 := (HA.out.cell (i := k + 1) (by omega)).1
          have q1 := (HCB.out.cell (i := k + 1) (by omega)).1
          have e1 : P k = wh1.getD (k + 1) false := HP.out k
          have e2 : Q k = wh2.getD (k + 1) false := HQ.out k
          rw [← e1] at q0
          rw [← e2] at q1
          clear e1 e2
          have E1 : Aside0 (countN P (k + 1) = countN P k + if P k then 1 else 0) := ⟨rfl⟩
          have E2 : Aside0 (countN Q (k + 1) = countN Q k + if Q k then 1 else 0) := ⟨rfl⟩
          have E3 : Aside0 (countN (fun i => P i && Q i) (k + 1) = countN (fun i => P i && Q i) k + if P k && Q k then 1 else 0) := ⟨rfl⟩
          obtain ⟨p, hp⟩ : ∃ p, P k = p := ⟨_, rfl⟩
          obtain ⟨q, hq⟩ : ∃ q, Q k = q := ⟨_, rfl⟩
          rw [hp] at q0 E1 E3
          rw [hq] at q1 E2 E3
          clear hp hq
          cases p <;> cases q
          all_goals
            go_wp2
            go_round
            case rel => exact ⟨k + 1, by omega, by go_num, by rw [E1.out]; first | rfl | go_num, by rw [E2.out]; first | rfl | go_num, by rw [E3.out]; first | rfl | go_num⟩
            case measure => simp [intOf]; omega
        · obtain rfl : k = n := by omega
          have hcap := countN_both P Q k
          obtain ⟨m1, hm1⟩ : ∃ m, countN P k = m := ⟨_, rfl⟩
          obtain ⟨m2, hm2⟩ : ∃ m, countN Q k = m := ⟨_, rfl⟩
          obtain ⟨m3, hm3⟩ : ∃ m, countN (fun i => P i && Q i) k = m := ⟨_, rfl⟩
          rw [hm1] at HME1 hcap b1 ⊢
          rw [hm2] at HME2 hcap b2 ⊢
          rw [hm3] at hcap b3 ⊢
          clear hm1 hm2 hm3
          have HREF := Aside0.mk (Below.refl v2.heap.size v2)
          have hcap3 : need ≤ (m1 : Int) → need ≤ (m2 : Int) → (0 : Int) < (m3 : Int) := fun h1 h2 => by omega
          have hsplit : (need ≤ (m1 : Int) ∧ need ≤ (m2 : Int) ∧ (0 : Int) < (m3 : Int)) ∨ (need ≤ (m1 : Int) ∧ (m2 : Int) < need) ∨ ((m1 : Int) < need ∧ need ≤ (m2 : Int)) ∨ ((m1 : Int) < need ∧ (m2 : Int) < need) := by omega
          clear hcap hcap3
          rcases hsplit with ⟨h1, h2, h3⟩ | ⟨h1, h2⟩ | ⟨h1, h2⟩ | ⟨h1, h2⟩
          all_goals
            go_wp2_with (first
              | (go_at_call 43; (with_reducible refine (HME1.out _ (HA.out.below HREF.out)).mono ?_); rintro e w4 ⟨rfl, hb⟩; have HX := Aside0.mk (below_step HREF.out hb); clear HREF hb; have HREF := HX; clear HX)
              | (go_at_call 43; (with_reducible refine (HME2.out _ (HCB.out.below HREF.out)).mono ?_); rintro e w4 ⟨rfl, hb⟩; have HX := Aside0.mk (below_step HREF.out hb); clear HREF hb; have HREF := HX; clear HX)
              | (go_at_call 44; (with_reducible refine (HLO.out _ (HA.out.below HREF.out)).mono ?_); rintro e w4 ⟨rfl, hb⟩; have HX := Aside0.mk (below_step HREF.out hb); clear HREF hb; have HREF := HX; clear HX))
            go_ret
            exact ⟨rfl, below_step HBB.out HREF.out⟩
    · have g3 : (100 : Int) < (l2.length : Int) := by omega
      go_enter Try.func11, Try.ntmps11
      go_wp2_with (go_at_call 10; (with_reducible refine (quorumKnown_walk _).mono ?_); rintro e u ⟨rfl, hb⟩; have HB := Aside0.mk hb; clear hb)
      go_ret
      exact ⟨rfl, HB.out⟩
  · have g3 : (100 : Int) < (l1.length : Int) := by omega
    go_enter Try.func11, Try.ntmps11
    go_wp2_with (go_at_call 10; (with_reducible refine (quorumKnown_walk _).mono ?_); rintro e u ⟨rfl, hb⟩; have HB := Aside0.mk hb; clear hb)
    go_ret
    exact ⟨rfl, HB.out⟩
theorem quorumMeets_walk (x : Int) (a1 : Option Addr) (n1 c1 : Nat) (z1 : List Int) (a2 : Option Addr) (n2 c2 : Nat) (z2 : List Int) (w : World) (_ : (Lit.int .i64 x).wf = true) (w1 : IsRow .i64 w a1 n1 c1 z1) (w2 : IsRow .i64 w a2 n2 c2 z2) :
    Calls Try.prog 11 #[.int .i64 x, .slice a1 n1 c1, .slice a2 n2 c2] w fun e w' => e = .returned (.bool true) ∧ Below w.heap.size w w' := by
  obtain ⟨l1, rfl, h1, _⟩ := isRow_C w1
  obtain ⟨l2, rfl, h2, _⟩ := isRow_C w2
  exact quorumMeets_core x a1 c1 l1 a2 c2 l2 w h1 h2 h1.2.1 h2.2.1
end Go.Proofs.Ytheafmjdncmpoaa
