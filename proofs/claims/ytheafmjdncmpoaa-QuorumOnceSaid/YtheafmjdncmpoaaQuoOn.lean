/-
  QuorumOnce, walked and answered.
-/
import Derived.Test.YtheafmjdncmpoaaQuoU
import Derived.Test.YtheafmjdncmpoaaQuoT
import Derived.Test.YtheafmjdncmpoaaQuoM
import Derived.Test.YtheafmjdncmpoaaQuoW
import Derived.Deep.DeepCutAuto
import Derived.Deep.CutRange
import Derived.StillTailTactics
import Derived.BigQuiet
import Derived.Deep.QuietTactic
namespace Go.Proofs.Ytheafmjdncmpoaa
set_option linter.unusedSimpArgs false
set_option linter.unusedVariables false
open Go.RowKit Go.Proofs.YtheafmjdncmpoaaW.PrintWords Go.Proofs.YtheafmjdncmpoaaW.PrintMore

/-- the law's quorum, made since w -/
structure OB (w wr : World) (b n : Nat) (S : List Qs) (need : Int) : Prop where
  qb : QB wr w.heap.size b S need
  hb : Below w.heap.size w wr
  inv : Inv n S
theorem OB.below {w wr u : World} {b n : Nat} {S : List Qs} {need : Int} (h : OB w wr b n S need) (hb : Below wr.heap.size wr u) : OB w u b n S need := ⟨h.qb.below hb, below_step h.hb hb, h.inv⟩
section
variable {w wr : World} {b n : Nat} {S : List Qs} {need : Int} {m o : Nat}
theorem OB.nodes (h : OB w wr b n S need) (hm : cntS metB S = m) (hn : n ≤ 64) (hneed : need ≠ 0) :
    Calls Try.prog 46 #[.pointer (some ⟨b, 0, none⟩)] wr fun e u => ∃ A c, e = .returned (.slice A m c) ∧ OB w u b n S need ∧ Kd.C kI u A m (nodesL S n) := by
  have hl := h.inv.len
  refine (Nodes_step w.heap.size b S need wr h.qb (by omega) hneed).mono fun e u ⟨A, c, h1, h2, h3, h4, h5⟩ => ⟨A, c, ?_, ⟨h3, h.hb.trans h2, h.inv⟩, ?_⟩
  · rw [h1, nodesL_cnt, ← hm]; rfl
  · have e : (nodesL S S.length).length = m := by rw [nodesL_cnt, ← hm]; rfl
    rw [e, hl] at h4
    exact h4
theorem OB.opens (h : OB w wr b n S need) (hm : cntS isOpen S = o) (hn : n ≤ 64) (hneed : need ≠ 0) :
    Calls Try.prog 45 #[.pointer (some ⟨b, 0, none⟩)] wr fun e u => ∃ A c, e = .returned (.slice A o c) ∧ Below wr.heap.size wr u := by
  have hl := h.inv.len
  refine (Open_any _ _ b S need wr h.qb.1 (by omega) hneed).mono fun e u ⟨v, h1, h2, h3⟩ => ?_
  obtain ⟨A, c, e1, _, _⟩ := Kd.R_reads h3
  exact ⟨A, c, by rw [h1, e1, openL_cnt, ← hm]; rfl, h2⟩
theorem OB.met (h : OB w wr b n S need) (hm : cntS metB S = m) (hn : n ≤ 64) (hneed : need ≠ 0) :
    Calls Try.prog 43 #[.pointer (some ⟨b, 0, none⟩)] wr fun e u => e = .returned (.bool (decide (need ≤ (m : Int)))) ∧ Below wr.heap.size wr u := by
  have hl := h.inv.len
  refine (Met_any _ _ b S need wr h.qb.1 (by omega) hneed).mono fun e u ⟨h1, h2⟩ => ⟨?_, h2⟩
  rw [h1, metN_cnt, hm]
theorem OB.lost (h : OB w wr b n S need) (hm : cntS metB S = m) (ho : cntS isOpen S = o) (hn : n ≤ 64) (hneed : need ≠ 0) :
    Calls Try.prog 44 #[.pointer (some ⟨b, 0, none⟩)] wr fun e u => e = .returned (.bool (decide ((m : Int) + (o : Int) < need))) ∧ Below wr.heap.size wr u := by
  have hl := h.inv.len
  refine (Lost_any _ _ b S need wr h.qb.1 (by omega) hneed).mono fun e u ⟨h1, h2⟩ => ⟨?_, h2⟩
  rw [h1, keptN_cnt, h.inv.sum.2, hm, ho, Int.natCast_add]
theorem OB.add (h : OB w wr b n S need) (hn : 1 ≤ n ∧ n ≤ 64) (hneed : need ≠ 0) {s who r : Int} {S' : List Qs} (he : addI S s who = (r, S')) :
    Calls Try.prog 40 #[.pointer (some ⟨b, 0, none⟩), .int .i64 s, .int .i64 who] wr fun e u => e = .returned (.int .i64 r) ∧ OB w u b n S' need := by
  have hl := h.inv.len
  have hi := (add_step h.inv s who).1
  rw [he] at hi
  exact (Add_at h.qb he (by omega) (by omega) hneed).mono fun e u ⟨h1, h2, h3⟩ => ⟨h1, ⟨h3, h.hb.trans h2, hi⟩⟩
theorem OB.lose (h : OB w wr b n S need) (hn : 1 ≤ n ∧ n ≤ 64) (hneed : need ≠ 0) {s r : Int} {S' : List Qs} (he : loseI S s = (r, S')) :
    Calls Try.prog 38 #[.pointer (some ⟨b, 0, none⟩), .int .i64 s] wr fun e u => e = .returned (.int .i64 r) ∧ OB w u b n S' need := by
  have hl := h.inv.len
  have hi := (lose_step h.inv s).1
  rw [he] at hi
  have := Lose_step w.heap.size b S need s wr h.qb (by omega) (by omega) hneed
  rw [he] at this
  exact this.mono fun e u ⟨h1, h2, h3⟩ => ⟨h1, ⟨h3, h.hb.trans h2, hi⟩⟩
end
theorem newOB {w u : World} {n : Nat} {need : Int} {A : Option Addr} {c : Nat} (hn : 1 ≤ n ∧ n ≤ 64) (hneed : 1 ≤ need ∧ need ≤ n) (hb : Below w.heap.size w u) (hC : Kd.C kI u A (firstL n).length (firstL n)) :
    Calls Try.prog 32 #[.slice A (firstL n).length c, .int .i64 need] u fun e w' => ∃ b, e = .returned (.tuple #[.pointer (some ⟨b, 0, none⟩), .int .i64 0]) ∧ OB w w' b n (metS n []) need := by
  refine (New_step A c (firstL n) need u (metS n []) hC (by rw [firstL_len]; omega) (by rw [firstL_len]; exact newS_first hn.2 n (Nat.le_refl _)) (by rw [firstL_len]; exact hneed)).mono fun e w' ⟨b, h1, h2, h3⟩ => ⟨b, h1, ⟨?_, ?_⟩, below_step hb h2, inv_first hn.2⟩
  · obtain ⟨v, k1, k2, k3, k4⟩ := h3.1
    have hle := hb.size
    exact ⟨v, by omega, by omega, k3, Kd.R_mono (Kd.R_lower k4 hle) (fun k hk => Nat.le_trans hle hk)⟩
  · exact Nat.le_trans hb.size h2.size
set_option maxHeartbeats 6400000 in
set_option maxRecDepth 100000 in
theorem quorumOnce_core (x z : Int) (A1 : Option Addr) (c1 : Nat) (l : List Act3) (w : World) (hr : IsActs w A1 l.length c1 l) :
    Calls Try.prog 12 #[.int .i64 x, .int .i64 z, .slice A1 l.length c1] w fun e w' => e = .returned (.bool true) ∧ Below w.heap.size w w' := by
  have hl := hr.2.1
  have HR := Aside0.mk hr
  clear hr
  by_cases g1 : l.length ≤ 200
  · have hp := Int.emod_nonneg x (show (20 : Int) ≠ 0 by omega)
    have hp2 := Int.emod_lt_of_pos x (show (0 : Int) < 20 by omega)
    have HPK := Aside0.mk (fun u => Pick_any x 20 u (by omega) (by omega))
    obtain ⟨y, hy⟩ := Int.eq_ofNat_of_zero_le hp
    rw [hy] at HPK hp2
    clear hp hy
    obtain ⟨n, hN⟩ : ∃ n : Nat, 1 + (y : Int) = n := ⟨y + 1, by omega⟩
    have hn1 : 1 ≤ n := by omega
    have hn2 : n ≤ 20 := by omega
    clear hp2
    have hq := Int.emod_nonneg z (show (n : Int) ≠ 0 by omega)
    have hq2 := Int.emod_lt_of_pos z (show (0 : Int) < n by omega)
    have HPK2 := Aside0.mk (fun u => Pick_any z n u (by omega) (by omega))
    obtain ⟨z', hz'⟩ : ∃ z', z % (n : Int) = z' := ⟨_, rfl⟩
    rw [hz'] at HPK2 hq hq2
    clear hz'
    obtain ⟨need, hneed⟩ : ∃ need : Int, 1 + z' = need := ⟨_, rfl⟩
    have hd1 : 1 ≤ need := by omega
    have hd2 : need ≤ n := by omega
    have HF := Aside0.mk (fun u => first_any n u (by omega))
    go_enter Try.func12, Try.ntmps12
    go_wp2_with (first
      | (go_at_call 30; (with_reducible refine (awake_any _).mono ?_); rintro e u ⟨rfl, hb⟩; have HB := Aside0.mk hb; clear hb)
      | (go_at_call 19; (with_reducible refine (HPK.out _).mono ?_); rintro e u ⟨rfl, rfl⟩)
      | (go_at_call 19; (with_reducible refine (HPK2.out _).mono ?_); rintro e u ⟨rfl, rfl⟩)
      | (go_at_call 48; (with_reducible refine (HF.out _).mono ?_); rintro e u1 ⟨A2, c2, rfl, hb, hC, hc⟩; have HB1 := Aside0.mk (below_step HB.out hb); have HC1 := Aside0.mk hC; clear hb hC hc)
      | (go_at_call 32; (with_reducible refine (newOB ⟨hn1, by omega⟩ ⟨hd1, hd2⟩ HB1.out HC1.out).mono ?_); rintro e u2 ⟨b, rfl, hob⟩; have HO := Aside0.mk hob; clear hob))
    clear hN hneed hq hq2
    clear HPK HPK2 HF HC1 HB1 HB
    go_loopw [10, 11, 12, 13, 14, 15, 16, 17, 18] (fun a c i s13 s14 s15 s16 s17 s18 wr => ∃ (k m lo : Nat) (S : List Qs) (wb : Bool), k ≤ l.length ∧ i = .int .i64 k ∧ a = .bool wb ∧ Aside0 (wb = decide (need ≤ (m : Int))) ∧ c = .int .i64 lo ∧ Aside0 (cntS metB S = m) ∧ Aside0 (cntS lostB S = lo) ∧ Aside0 (OB w wr b n S need)) (fun _ _ i _ _ _ _ _ _ _ => l.length - (intOf i).toNat)
    case atStart =>
      have h0 := first_cnt n
      exact ⟨0, 0, 0, metS n [], false, by omega, rfl, rfl, ⟨by rw [show decide (need ≤ ((0 : Nat) : Int)) = false by simp; omega]⟩, rfl, ⟨h0.1⟩, ⟨h0.2⟩, HO⟩
    case round =>
      clear HO
      obtain ⟨k, m, lo, S, wb, hk, rfl, rfl, HWB, rfl, HM, HL, HO⟩ := hrel
      by_cases hgo : k < l.length
      · obtain ⟨ad, rfl, x0, x1, x2⟩ := HR.out.2.2 k hgo
        obtain ⟨⟨o, s, who⟩, hact⟩ : ∃ q, l.getD k zA = q := ⟨_, rfl⟩
        rw [hact] at x0 x1 x2
        clear hact
        simp only at x0 x1 x2
        have HXS := Aside0.mk (fun u (hb : Below w.heap.size w u) => (⟨pw_cell_below hb x0, by rw [← add_field _ _ 1 (by omega)]; exact pw_cell_below hb x1, by rw [← add_field _ _ 2 (by omega)]; exact pw_cell_below hb x2⟩ : u.cell? (ad.add (k * 3)) = some (.bool o) ∧ u.cell? ⟨(ad.add (k * 3)).block, (ad.add (k * 3)).off + 1, none⟩ = some (.int .i64 s) ∧ u.cell? ⟨(ad.add (k * 3)).block, (ad.add (k * 3)).off + 2, none⟩ = some (.int .i64 who)))
        clear x0 x1 x2
        have hsum := HO.out.inv.sum.1
        obtain ⟨op, hop⟩ : ∃ op, cntS isOpen S = op := ⟨_, rfl⟩
        have HP := Aside0.mk hop
        rw [HM.out, HL.out, hop] at hsum
        clear hop
        have hns : n ≤ 64 := by omega
        have hne : need ≠ 0 := by omega
        have HNE := Aside0.mk hne
        clear hne
        go_upto_if 60 with (first
          | (go_at_call 46; (with_reducible refine (HO.out.nodes HM.out hns HNE.out).mono ?_); rintro e v1 ⟨A3, c3, rfl, hob, _⟩; have HX := Aside0.mk hob; clear HO hob; have HO := HX; clear HX)
          | (go_at_call 45; (with_reducible refine (HO.out.opens HP.out hns HNE.out).mono ?_); rintro e v1 ⟨A3, c3, rfl, hob⟩; have HX := Aside0.mk (HO.out.below hob); clear HO hob; have HO := HX; clear HX; obtain ⟨x0, x1, x2⟩ := HXS.out _ HO.out.hb))
        go_cut [11, 13, 14, 15] from 44 to 169 (fun s11 s13 s14 s15 wx => ∃ (m' op' lo' : Nat) (S' : List Qs), s11 = .int .i64 lo' ∧ s13 = .int .i64 m' ∧ s14 = .int .i64 op' ∧ m ≤ m' ∧ Aside0 (cntS metB S' = m') ∧ Aside0 (cntS isOpen S' = op') ∧ Aside0 (cntS lostB S' = lo') ∧ Aside0 (OB w wx b n S' need))
        case first =>
          cases o with
          | true =>
            have hst := (lose_step HO.out.inv s).2
            obtain ⟨⟨r, S'⟩, hrs⟩ : ∃ q, loseI S s = q := ⟨_, rfl⟩
            rw [hrs] at hst
            have HC := Aside0.mk (HO.out.lose ⟨hn1, hns⟩ HNE.out hrs)
            have HI := Aside0.mk ((lose_step HO.out.inv s).1)
            rw [hrs] at HI
            clear hrs
            have hsum' := HI.out.sum.1
            simp only at hst hsum'
            rcases hst with ⟨rfl, e1, e2⟩ | ⟨hr0, e1⟩
            · rw [e1, e2, HM.out, HL.out] at hsum'
              have HE1 := Aside0.mk e1
              have HE2 := Aside0.mk e2
              clear e1 e2
              go_wp2_with (go_at_call 38; (with_reducible refine HC.out.mono ?_); rintro e v2 ⟨rfl, hob⟩; have HX := Aside0.mk hob; clear HO hob; have HO := HX; clear HX)
              go_meet
              case rel => exact ⟨m, op - 1, lo + 1, S', by go_num, rfl, by rw [show ((op - 1 : Nat) : Int) = (op : Int) - 1 by omega], by omega, ⟨by have := HE1.out; have := HM.out; omega⟩, ⟨by have := HI.out.sum.1; rw [HE1.out, HE2.out, HM.out, HL.out] at this; omega⟩, ⟨by have := HE2.out; have := HL.out; omega⟩, HO⟩
            · subst e1
              have hr0' : (r == 0) = false := by simpa using hr0
              clear hr0
              go_wp2_with (go_at_call 38; (with_reducible refine HC.out.mono ?_); rintro e v2 ⟨rfl, hob⟩; have HX := Aside0.mk hob; clear HO hob; have HO := HX; clear HX)
              go_meet
              case rel => exact ⟨m, op, lo, _, rfl, rfl, rfl, by omega, HM, HP, HL, HO⟩
          | false =>
            have hst := (add_step HO.out.inv s who).2
            obtain ⟨⟨r, S'⟩, hrs⟩ : ∃ q, addI S s who = q := ⟨_, rfl⟩
            rw [hrs] at hst
            have HC := Aside0.mk (fun u (h : OB w u b n S need) => h.add ⟨hn1, hns⟩ HNE.out hrs)
            have HI := Aside0.mk ((add_step HO.out.inv s who).1)
            rw [hrs] at HI
            clear hrs
            have hsum' := HI.out.sum.1
            simp only at hst hsum'
            rcases hst with ⟨rfl, e1, e2⟩ | ⟨hr0, e1⟩
            · rw [e1, e2, HM.out, HL.out] at hsum'
              have HE1 := Aside0.mk e1
              have HE2 := Aside0.mk e2
              clear e1 e2
              go_wp2_with fail
              go_still_tail 11, (by kernel_rfl)
              change wpList _ _ _ _ _ v1.drew
              go_wp2_with (go_at_call 40; (with_reducible refine (HC.out _ (HO.out.below (Below.refl _ _).drew)).mono ?_); rintro e v2 ⟨rfl, hob⟩; have HX := Aside0.mk hob; clear HO hob; have HO := HX; clear HX)
              go_meet
              case rel => exact ⟨m + 1, op - 1, lo, S', rfl, by go_num, by rw [show ((op - 1 : Nat) : Int) = (op : Int) - 1 by omega], by omega, ⟨by have := HE1.out; have := HM.out; omega⟩, ⟨by have := HI.out.sum.1; rw [HE1.out, HE2.out, HM.out, HL.out] at this; omega⟩, ⟨by have := HE2.out; have := HL.out; omega⟩, HO⟩
            · subst e1
              have hr0' : (r == 0) = false := by simpa using hr0
              clear hr0
              go_wp2_with fail
              go_still_tail 11, (by kernel_rfl)
              change wpList _ _ _ _ _ v1.drew
              go_wp2_with (go_at_call 40; (with_reducible refine (HC.out _ (HO.out.below (Below.refl _ _).drew)).mono ?_); rintro e v2 ⟨rfl, hob⟩; have HX := Aside0.mk hob; clear HO hob; have HO := HX; clear HX)
              go_meet
              case rel => exact ⟨m, op, lo, _, rfl, rfl, rfl, by omega, HM, HP, HL, HO⟩
        case rest =>
          clear x0 x1 x2 HXS HM HP HL HO hsum
          obtain ⟨m', op', lo', S', rfl, rfl, rfl, hmm, HM, HP, HL, HO⟩ := hcut
          have hsum := HO.out.inv.sum.1
          rw [HM.out, HL.out, HP.out] at hsum
          go_upto_region 25 with (go_at_call 46; (with_reducible refine (HO.out.nodes HM.out hns HNE.out).mono ?_); rintro e v3 ⟨A4, c4, rfl, hob, hC⟩; have HX := Aside0.mk hob; have HC := Aside0.mk hC; clear HO hob hC; have HO := HX; clear HX)
          go_cut [147] from 44 to 169 (fun s147 wx => s147 = .bool false ∧ Aside0 (Below v3.heap.size v3 wx))
          case first =>
            have HREF := Aside0.mk (Below.refl v3.heap.size v3)
            have hsplit : (need ≤ (m : Int) ∧ need ≤ (m' : Int) ∧ need ≤ (m' : Int) + (op' : Int)) ∨ ((m : Int) < need ∧ need ≤ (m' : Int) ∧ need ≤ (m' : Int) + (op' : Int)) ∨ ((m : Int) < need ∧ (m' : Int) < need ∧ need ≤ (m' : Int) + (op' : Int)) ∨ ((m : Int) < need ∧ (m' : Int) < need ∧ (m' : Int) + (op' : Int) < need) := by omega
            have hsumI : (m' : Int) + (op' : Int) + (lo' : Int) = (n : Int) := by omega
            clear hmm hsum
            rcases hsplit with ⟨h1, h2, h3⟩ | ⟨h1, h2, h3⟩ | ⟨h1, h2, h3⟩ | ⟨h1, h2, h3⟩
            all_goals
              first
                | (have hwb : wb = true := HWB.out.trans (decide_eq_true h1); subst hwb)
                | (have hwb : wb = false := HWB.out.trans (decide_eq_false (by omega)); subst hwb)
              clear HWB
              go_wp2_with (first
                | (go_at_call 45; (with_reducible refine ((HO.out.below HREF.out).opens HP.out hns HNE.out).mono ?_); rintro e v5 ⟨A5, c5, rfl, hb⟩; have HX := Aside0.mk (below_step HREF.out hb); clear HREF hb; have HREF := HX; clear HX)
                | (go_at_call 43; (with_reducible refine ((HO.out.below HREF.out).met HM.out hns HNE.out).mono ?_); rintro e v5 ⟨rfl, hb⟩; have HX := Aside0.mk (below_step HREF.out hb); clear HREF hb; have HREF := HX; clear HX)
                | (go_at_call 44; (with_reducible refine ((HO.out.below HREF.out).lost HM.out HP.out hns HNE.out).mono ?_); rintro e v5 ⟨rfl, hb⟩; have HX := Aside0.mk (below_step HREF.out hb); clear HREF hb; have HREF := HX; clear HX))
              go_meet
              case rel => (refine ⟨?_, HREF⟩; first | rfl | (simp; done) | (simp; omega))
          case rest =>
            obtain ⟨rfl, HREF⟩ := hcut
            have HX := Aside0.mk (HO.out.below HREF.out)
            have HY := Aside0.mk (Kd.C_below HC.out HREF.out)
            clear HO HC HREF
            have HO := HX
            have HC := HY
            clear HX HY
            have HND := Aside0.mk (fun i j => @nodes_ne n S' HO.out.inv i j)
            have hlen : (nodesL S' n).length = m' := HC.out.1
            obtain ⟨N, hN⟩ : ∃ N, nodesL S' n = N := ⟨_, rfl⟩
            rw [hN] at HC HND hlen
            clear hN hmm
            have HLN := Aside0.mk hlen
            clear hlen
            go_wp2
            go_loopw [17, 18] (fun i j wr2 => ∃ p : Nat, p ≤ m' ∧ i = .int .i64 p ∧ Aside0 (OB w wr2 b n S' need) ∧ Aside0 (Kd.C kI wr2 A4 m' N)) (fun i _ _ => m' - (intOf i).toNat)
            case atStart => exact ⟨0, by omega, rfl, HO, HC⟩
            case round =>
              clear HO HC
              obtain ⟨p, hp, rfl, HO, HC⟩ := hrel
              by_cases hgo2 : p < m'
              · go_wp2
                go_loopw [18] (fun j wr3 => ∃ q : Nat, q ≤ p ∧ j = .int .i64 q ∧ Aside0 (OB w wr3 b n S' need) ∧ Aside0 (Kd.C kI wr3 A4 m' N)) (fun j _ => p - (intOf j).toNat)
                case atStart => exact ⟨0, by omega, rfl, HO, HC⟩
                case round =>
                  clear HO HC
                  obtain ⟨q, hq, rfl, HO, HC⟩ := hrel
                  by_cases hgo3 : q < p
                  · obtain ⟨ad4, rfl, hc1⟩ := cell_get (l := N) (by rw [HLN.out]; exact HC.out) p (by rw [HLN.out]; exact hgo2)
                    obtain ⟨ad5, e5, hc2⟩ := cell_get (l := N) (by rw [HLN.out]; exact HC.out) q (by rw [HLN.out]; omega)
                    obtain rfl := Option.some.inj e5
                    have hne := HND.out p q (by rw [HLN.out]; exact hgo2) hgo3
                    obtain ⟨a, ha⟩ : ∃ a, N.getD p 0 = a := ⟨_, rfl⟩
                    obtain ⟨a', ha'⟩ : ∃ a, N.getD q 0 = a := ⟨_, rfl⟩
                    rw [ha] at hc1 hne
                    rw [ha'] at hc2 hne
                    clear ha ha' e5
                    have hne' : (a' == a) = false := by simpa using hne
                    clear hne
                    go_wp2_with fail
                    go_quiet (fail)
                    go_wp2
                    go_roundw
                    case rel => exact ⟨q + 1, by omega, by go_num, ⟨HO.out.below (pw_below_drewN (Below.refl _ _) _)⟩, ⟨Kd.C_below HC.out (pw_below_drewN (Below.refl _ _) _)⟩⟩
                    case measure => simp [intOf]; omega
                  · obtain rfl : q = p := by omega
                    go_wp2
                    go_roundw
                    case rel => exact ⟨q + 1, by omega, by go_num, HO, HC⟩
                    case measure => simp [intOf]; omega
              · obtain rfl : p = m' := by omega
                obtain ⟨wb', hwb'⟩ : ∃ wb', decide (need ≤ (p : Int)) = wb' := ⟨_, rfl⟩
                have HMT := Aside0.mk (HO.out.met HM.out hns HNE.out)
                rw [hwb'] at HMT
                have HWB' := Aside0.mk hwb'.symm
                clear hwb'
                go_wp2_with (go_at_call 43; (with_reducible refine HMT.out.mono ?_); rintro e v5 ⟨rfl, hb⟩; have HX := Aside0.mk (HO.out.below hb); clear HO hb; have HO := HX; clear HX)
                go_roundw
                case rel => exact ⟨k + 1, p, lo', S', wb', by omega, by go_num, rfl, HWB', rfl, HM, HL, HO⟩
                case measure => simp [intOf]; omega
      · obtain rfl : k = l.length := by omega
        go_wp2
        go_ret
        exact ⟨rfl, HO.out.hb⟩
  · have g3 : (200 : Int) < (l.length : Int) := by omega
    go_enter Try.func12, Try.ntmps12
    go_wp2_with (go_at_call 30; (with_reducible refine (awake_any _).mono ?_); rintro e u ⟨rfl, hb⟩; have HB := Aside0.mk hb; clear hb)
    go_ret
    exact ⟨rfl, HB.out⟩
theorem quorumOnce_walk (x z : Int) (a : Option Addr) (len cap : Nat) (l : List Act3) (w : World) (_ : (Lit.int .i64 x).wf = true) (_ : (Lit.int .i64 z).wf = true) (h : IsActs w a len cap l) :
    Calls Try.prog 12 #[.int .i64 x, .int .i64 z, .slice a len cap] w fun e w' => e = .returned (.bool true) ∧ Below w.heap.size w w' := by
  obtain rfl : l.length = len := h.1
  exact quorumOnce_core x z a cap l w h
end Go.Proofs.Ytheafmjdncmpoaa
