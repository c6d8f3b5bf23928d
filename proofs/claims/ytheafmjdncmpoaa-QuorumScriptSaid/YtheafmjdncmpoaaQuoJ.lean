/-
  Quorum: both quorums at once; alike.
-/
import Derived.Test.YtheafmjdncmpoaaQuoH
namespace Go.Proofs.Ytheafmjdncmpoaa
set_option linter.unusedSimpArgs false
set_option linter.unusedVariables false
open Go.RowKit Go.Proofs.YtheafmjdncmpoaaW.PrintWords Go.Proofs.YtheafmjdncmpoaaW.PrintMore

set_option maxHeartbeats 1600000 in
set_option maxRecDepth 100000 in
theorem same_any (A1 A2 : Option Addr) (c1 c2 : Nat) (l : List Int) (w : World) (h1 : Kd.C kI w A1 l.length l) (h2 : Kd.C kI w A2 l.length l) :
    Calls Try.prog 34 #[.slice A1 l.length c1, .slice A2 l.length c2] w fun e w' => e = .returned (.bool true) ∧ Below w.heap.size w w' := by
  have hm := h1.2.1
  have H1 := Aside0.mk h1
  have H2 := Aside0.mk h2
  clear h1 h2
  go_enter Try.func34, Try.ntmps34
  go_wp2
  go_loopw [5, 6] (fun s i wr => ∃ k : Nat, k ≤ l.length ∧ i = .int .i64 k ∧ s = .bool true ∧ Aside0 (Below w.heap.size w wr)) (fun _ i _ => l.length - (intOf i).toNat)
  case atStart => exact ⟨0, by omega, rfl, by simp, ⟨Below.refl _ _⟩⟩
  case round =>
    obtain ⟨k, hk, rfl, rfl, HB⟩ := hrel
    by_cases hgo : k < l.length
    · obtain ⟨a1, rfl, q1⟩ := cell_get (Kd.C_below H1.out HB.out) k hgo
      obtain ⟨a2, rfl, q2⟩ := cell_get (Kd.C_below H2.out HB.out) k hgo
      obtain ⟨x, hx⟩ : ∃ x, l.getD k 0 = x := ⟨_, rfl⟩
      rw [hx] at q1 q2
      clear hx
      go_wp2_with fail
      go_quiet (fail)
      go_wp2
      go_roundw
      case rel => exact ⟨k + 1, by omega, by go_num, by simp, ⟨below_step HB.out (pw_below_drewN (Below.refl _ _) _)⟩⟩
      case measure => simp [intOf]; omega
    · obtain rfl : k = l.length := by omega
      go_wp2
      go_ret
      exact ⟨rfl, HB.out⟩
/-- both quorums, of the same slots, made since w -/
structure Both (w wr : World) (b : Nat) (r : RB) (n : Nat) (S : List Qs) (need : Int) : Prop where
  q : QAt wr w.heap.size (fun k => w.heap.size ≤ k ∧ ¬ r.own k) b S need
  rq : RQ wr w.heap.size r S need
  hb : Below w.heap.size w wr
  inv : Inv n S
theorem QAt.move {w w' : World} {base : Nat} {F : Nat → Prop} {b : Nat} {S : List Qs} {need : Int} (h : QAt w base F b S need) (hm : ∀ k, F k → k < w.heap.size → w'.heap[k]? = w.heap[k]?) : QAt w' base F b S need := by
  obtain ⟨v, h1, h2, h3, h4⟩ := h
  exact ⟨v, h1, h2, (hm b h1 (Array.getElem?_eq_some_iff.1 h3).1).trans h3, Kd.R_step h4 hm⟩
theorem Both.below {w wr u : World} {b : Nat} {r : RB} {n : Nat} {S : List Qs} {need : Int} (h : Both w wr b r n S need) (hb : Below wr.heap.size wr u) : Both w u b r n S need :=
  ⟨h.q.below hb, h.rq.below hb, below_step h.hb hb, h.inv⟩
theorem RB.own_ge {w wr : World} {r : RB} {S : List Qs} {need : Int} (h : RQ wr w.heap.size r S need) : ∀ k, r.own k → w.heap.size ≤ k := by
  rintro k (rfl | rfl | rfl | rfl)
  · exact h.bg
  · exact h.bs
  · exact h.bb
  · exact h.bo
/-- the program's half has done a call -/
theorem Both.half {w wr u : World} {b : Nat} {r : RB} {n : Nat} {S S' : List Qs} {need : Int} (h : Both w wr b r n S need) (hm : Moved (fun k => w.heap.size ≤ k ∧ ¬ r.own k) wr u)
    (hq : QAt u w.heap.size (fun k => (w.heap.size ≤ k ∧ ¬ r.own k) ∨ wr.heap.size ≤ k) b S' need) : QAt u w.heap.size (fun k => w.heap.size ≤ k ∧ ¬ r.own k) b S' need ∧ RQ u w.heap.size r S need ∧ Below w.heap.size w u := by
  refine ⟨hq.mono fun k hk => ?_, h.rq.keep fun k hk => hm.block k (h.rq.lt k hk) (fun e => e.2 hk), h.hb.trans (hm.below (fun k hk => hk.1) h.hb.size)⟩
  rcases hk with hk | hk
  · exact hk
  · have := h.hb.size
    exact ⟨by omega, fun ho => by have := h.rq.lt k ho; omega⟩
/-- the document's half has done its -/
theorem Both.whole {w u u2 : World} {b : Nat} {r : RB} {n : Nat} {S S' : List Qs} {need : Int} (hq : QAt u w.heap.size (fun k => w.heap.size ≤ k ∧ ¬ r.own k) b S' need) (hb : Below w.heap.size w u) (hown : ∀ k, r.own k → w.heap.size ≤ k) (hm : Moved r.own u u2) (hr : RQ u2 w.heap.size r S' need) (hi : Inv n S') :
    Both w u2 b r n S' need :=
  ⟨hq.move fun k hk hlt => hm.block k hlt hk.2, hr, hb.trans (hm.below hown hb.size), hi⟩
theorem Row3.keep {w u : World} {base : Nat} {v : Value} {xs : List Int} (h : Row3 w base v xs) (hk : ∀ k, v.ownBlock = some k → u.heap[k]? = w.heap[k]?) : Row3 u base v xs := by
  refine ⟨?_, h.2.keep hk⟩
  exact Kd.R_mono (Kd.R_step (Kd.R_tight rfl h.1) (fun k hk' _ => hk k hk'.symm)) (fun _ _ => trivial)
theorem Row3.base {w : World} {base : Nat} {v : Value} {xs : List Int} (h : Row3 w base v xs) : ∀ k, v.ownBlock = some k → base ≤ k ∧ k < w.heap.size := fun k hk => by
  obtain ⟨inner, ho⟩ := Kd.R_own h.1
  exact ⟨own_base ho k hk, own_lt ho k hk⟩
theorem Open_row {w : World} {base : Nat} {F : Nat → Prop} {b : Nat} {S : List Qs} {need : Int} (h : QAt w base F b S need) (hS : S.length ≤ 1000) (hneed : need ≠ 0) :
    Calls Try.prog 45 #[.pointer (some ⟨b, 0, none⟩)] w fun e w' => ∃ A c, e = .returned (.slice A (openL S S.length).length c) ∧ Below w.heap.size w w' ∧ Row3 w' w.heap.size (.slice A (openL S S.length).length c) (openL S S.length) :=
  (Open_full base F b S need w h hS hneed).mono fun e u ⟨v, h1, h2, h3⟩ => by
    obtain ⟨A, c, e1, _⟩ := Kd.R_reads h3.1
    subst e1
    exact ⟨A, c, h1, h2, h3⟩
theorem Nodes_row {w : World} {base : Nat} {F : Nat → Prop} {b : Nat} {S : List Qs} {need : Int} (h : QAt w base F b S need) (hS : S.length ≤ 1000) (hneed : need ≠ 0) :
    Calls Try.prog 46 #[.pointer (some ⟨b, 0, none⟩)] w fun e w' => ∃ A c, e = .returned (.slice A (nodesL S S.length).length c) ∧ Below w.heap.size w w' ∧ Row3 w' w.heap.size (.slice A (nodesL S S.length).length c) (nodesL S S.length) :=
  (Nodes_full base F b S need w h hS hneed).mono fun e u ⟨v, h1, h2, h3⟩ => by
    obtain ⟨A, c, e1, _⟩ := Kd.R_reads h3.1
    subst e1
    exact ⟨A, c, h1, h2, h3⟩
theorem Row3.reads {w : World} {base : Nat} {A : Option Addr} {c : Nat} {xs : List Int} (h : Row3 w base (.slice A xs.length c) xs) : Kd.C kI w A xs.length xs := (Kd.R_reads' h.1).2.2
set_option maxHeartbeats 6400000 in
set_option maxRecDepth 100000 in
theorem alike_any {w wr : World} {b : Nat} {r : RB} {n : Nat} {S : List Qs} {need : Int} (h : Both w wr b r n S need) (hn : n ≤ 1000) (hneed : need ≠ 0) :
    Calls Try.prog 42 #[.pointer (some ⟨b, 0, none⟩), .pointer (some ⟨r.g, 0, none⟩)] wr fun e u => e = .returned (.bool true) ∧ Below wr.heap.size wr u := by
  have hS : S.length ≤ 1000 := by rw [h.inv.len]; exact hn
  have H := Aside0.mk h
  have HOP := Aside0.mk (fun u (hb : Below wr.heap.size wr u) => Open_row (h.below hb).q hS hneed)
  have HNO := Aside0.mk (fun u (hb : Below wr.heap.size wr u) => Nodes_row (h.below hb).q hS hneed)
  have HRO := Aside0.mk (fun u (hb : Below wr.heap.size wr u) => ropen_any (h.below hb).rq hS)
  have HRN := Aside0.mk (fun u (hb : Below wr.heap.size wr u) => rnodes_any (h.below hb).rq hS)
  have HME := Aside0.mk (fun u (hb : Below wr.heap.size wr u) => Met_any _ _ b S need u (h.below hb).q hS hneed)
  have HLO := Aside0.mk (fun u (hb : Below wr.heap.size wr u) => Lost_any _ _ b S need u (h.below hb).q hS hneed)
  have HRM := Aside0.mk (fun u (hb : Below wr.heap.size wr u) => rmet_any (h.below hb).rq hS)
  have HRL := Aside0.mk (fun u (hb : Below wr.heap.size wr u) => rlost_any (h.below hb).rq hS h.inv.sum.2)
  clear h H
  obtain ⟨g, hg⟩ : ∃ g, r.g = g := ⟨_, rfl⟩
  obtain ⟨xs, hxs⟩ : ∃ xs, openL S S.length = xs := ⟨_, rfl⟩
  obtain ⟨ys, hys⟩ : ∃ ys, nodesL S S.length = ys := ⟨_, rfl⟩
  obtain ⟨mb, hmb⟩ : ∃ mb, decide (need ≤ (metN S : Int)) = mb := ⟨_, rfl⟩
  obtain ⟨lb, hlb⟩ : ∃ lb, decide ((keptN S : Int) < need) = lb := ⟨_, rfl⟩
  rw [hg] at HRO HRN HRM HRL ⊢
  rw [hxs] at HOP HRO
  rw [hys] at HNO HRN
  rw [hmb] at HME HRM
  rw [hlb] at HLO HRL
  clear hg hxs hys hmb hlb
  have HREF := Aside0.mk (Below.refl wr.heap.size wr)
  go_enter Try.func42, Try.ntmps42
  go_wp2_with (first
    | (go_at_call 45; (with_reducible refine (HOP.out _ HREF.out).mono ?_); rintro e u1 ⟨A1, c1, rfl, hb, hr⟩; have HR1 := Aside0.mk hr; clear hr; have HB1 := Aside0.mk hb; have HX := Aside0.mk (below_step HREF.out hb); clear HREF hb; have HREF := HX; clear HX)
    | (go_at_call 46; (with_reducible refine (HNO.out _ HREF.out).mono ?_); rintro e u2 ⟨A2, c2, rfl, hb, hr⟩; have HR2 := Aside0.mk hr; clear hr; have HY := Aside0.mk (HR1.out.below hb); have HU := Aside0.mk (Below.refl u2.heap.size u2); have HX := Aside0.mk (below_step HREF.out hb); clear HREF hb; have HREF := HX; clear HX)
    | (go_at_call 74; (with_reducible refine (HRO.out _ HREF.out).mono ?_); rintro e u3 ⟨A3, c3, rfl, hb, hC, _⟩; have HC3 := Aside0.mk hC; clear hC; have HV := Aside0.mk (below_step HU.out hb); clear HU; have HU := HV; clear HV; have HX := Aside0.mk (below_step HREF.out hb); clear HREF hb; have HREF := HX; clear HX)
    | (go_at_call 75; (with_reducible refine (HRN.out _ HREF.out).mono ?_); rintro e u3 ⟨A3, c3, rfl, hb, hC, _⟩; have HC4 := Aside0.mk hC; clear hC; have HV := Aside0.mk (below_step HU.out hb); clear HU; have HU := HV; clear HV; have HX := Aside0.mk (below_step HREF.out hb); clear HREF hb; have HREF := HX; clear HX)
    | (go_at_call 34; (with_reducible refine (same_any _ _ _ _ xs _ (HY.out.below HU.out).reads HC3.out).mono ?_); rintro e u3 ⟨rfl, hb⟩; clear HC3; have HV := Aside0.mk (below_step HU.out hb); clear HU; have HU := HV; clear HV; have HX := Aside0.mk (below_step HREF.out hb); clear HREF hb; have HREF := HX; clear HX)
    | (go_at_call 34; (with_reducible refine (same_any _ _ _ _ ys _ (HR2.out.below HU.out).reads HC4.out).mono ?_); rintro e u3 ⟨rfl, hb⟩; clear HC4; have HV := Aside0.mk (below_step HU.out hb); clear HU; have HU := HV; clear HV; have HX := Aside0.mk (below_step HREF.out hb); clear HREF hb; have HREF := HX; clear HX)
    | (go_at_call 43; (with_reducible refine (HME.out _ HREF.out).mono ?_); rintro e u3 ⟨rfl, hb⟩; have HV := Aside0.mk (below_step HU.out hb); clear HU; have HU := HV; clear HV; have HX := Aside0.mk (below_step HREF.out hb); clear HREF hb; have HREF := HX; clear HX)
    | (go_at_call 44; (with_reducible refine (HLO.out _ HREF.out).mono ?_); rintro e u3 ⟨rfl, hb⟩; have HV := Aside0.mk (below_step HU.out hb); clear HU; have HU := HV; clear HV; have HX := Aside0.mk (below_step HREF.out hb); clear HREF hb; have HREF := HX; clear HX)
    | (go_at_call 76; (with_reducible refine (HRM.out _ HREF.out).mono ?_); rintro e u3 ⟨rfl, hb⟩; have HV := Aside0.mk (below_step HU.out hb); clear HU; have HU := HV; clear HV; have HX := Aside0.mk (below_step HREF.out hb); clear HREF hb; have HREF := HX; clear HX)
    | (go_at_call 77; (with_reducible refine (HRL.out _ HREF.out).mono ?_); rintro e u3 ⟨rfl, hb⟩; have HV := Aside0.mk (below_step HU.out hb); clear HU; have HU := HV; clear HV; have HX := Aside0.mk (below_step HREF.out hb); clear HREF hb; have HREF := HX; clear HX))
  go_wp2_with (go_at_call 37; (with_reducible refine (Over_any (HY.out.below HU.out)).mono ?_); rintro e u4 ⟨rfl, hm⟩; have HM1 := Aside0.mk hm; clear hm)
  have hne : ∀ k, (Value.slice A2 ys.length c2).ownBlock = some k → some k ≠ (Value.slice A1 xs.length c1).ownBlock := fun k hk e => by
    have a1 := (HR1.out.base k e.symm).2
    have a2 := (HR2.out.base k hk).1
    omega
  have HR5 := Aside0.mk ((HR2.out.below HU.out).keep (u := u4) fun k hk => HM1.out.block k (((HR2.out.below HU.out).base k hk).2) (hne k hk))
  have HF1 := Aside0.mk (fun k (hk : some k = (Value.slice A1 xs.length c1).ownBlock) => (HR1.out.base k hk.symm).1)
  have HF2 : Aside0 (∀ k, some k = (Value.slice A2 ys.length c2).ownBlock → wr.heap.size ≤ k) := ⟨fun k hk => Nat.le_trans HB1.out.size (HR2.out.base k hk.symm).1⟩
  clear hne
  go_wp2_with (go_at_call 37; (with_reducible refine (Over_any HR5.out).mono ?_); rintro e u5 ⟨rfl, hm⟩; have HM2 := Aside0.mk hm; clear hm)
  go_ret
  refine ⟨by simp, ?_⟩
  have h1 := HREF.out.trans (HM1.out.below HF1.out HREF.out.size)
  exact h1.trans (HM2.out.below HF2.out h1.size)
end Go.Proofs.Ytheafmjdncmpoaa
