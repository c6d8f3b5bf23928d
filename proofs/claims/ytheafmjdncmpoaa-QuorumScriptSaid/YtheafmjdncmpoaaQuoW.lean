/-
  Quorum: the law's 'awake', walked.
-/
import Derived.Test.YtheafmjdncmpoaaQuoE
import Derived.Test.YtheafmjdncmpoaaPQuorumScriptx1
namespace Go.Proofs.Ytheafmjdncmpoaa
set_option linter.unusedSimpArgs false
set_option linter.unusedVariables false
open Go.RowKit Go.Proofs.YtheafmjdncmpoaaW.PrintWords Go.Proofs.YtheafmjdncmpoaaW.PrintMore

/-- a literal row of ints -/
theorem lit_C {w : World} {g : Nat} {l : List Int} {cs : Array Value} (h : w.heap[g]? = some (.cells cs 3 (0, 0))) (hc : cs.toList = l.map (fun x => Value.int .i64 x)) (hl : l.length ≤ 1000) : Kd.C kI w (some ⟨g, 0, none⟩) l.length l := by
  refine ⟨rfl, by omega, fun _ => ⟨⟨g, 0, none⟩, rfl, fun j p hp => ⟨[.int .i64 p], rfl, rfl, fun i u hu => ?_⟩⟩⟩
  have hi : i = 0 := by
    have := (List.getElem?_eq_some_iff.1 hu).1
    simp at this; exact this
  subst hi
  simp only [List.getElem?_cons_zero, Option.some.injEq] at hu
  subst hu
  rw [show j * kI.sz + 0 = j by show j * 1 + 0 = j; omega, add_plain, cell_of_row _ g j _ _ _ h]
  have : cs[j]? = (cs.toList)[j]? := by simp
  rw [this, hc, List.getElem?_map, hp]
  rfl
def q3 : List Qs := [⟨1, 0, none⟩, ⟨2, 0, none⟩, ⟨3, 0, none⟩]
def q3a : List Qs := [⟨1, 0, some 1⟩, ⟨2, 0, none⟩, ⟨3, 0, none⟩]
def q3b : List Qs := [⟨1, 0, some 1⟩, ⟨2, 0, some 4⟩, ⟨3, 0, none⟩]
theorem q3_new : newS [1, 2, 3] 3 = some q3 := by rfl
theorem q3_add1 : addI q3 1 1 = (0, q3a) := by rfl
theorem q3_add2 : addI q3a 1 4 = (7, q3a) := by rfl
theorem q3_add3 : addI q3a 2 4 = (0, q3b) := by rfl
theorem q3_met : metN q3a = 1 := by rfl
theorem q3_met2 : metN q3b = 2 := by rfl
theorem q3_nodes : nodesL q3b 3 = [1, 4] := by rfl
theorem same_14 : Go.Proofs.Ytheafmjdncmpoaa.PQuorumScript.chartularykit_SameInts.f 9 [1, 4] [1, 4] = some true := by kernel_rfl
theorem Add_at {base b : Nat} {S S' : List Qs} {need n who r : Int} {w : World} (h : QB w base b S need) (he : addI S n who = (r, S')) (hS : S.length ≤ 1000) (hpos : 0 < S.length) (hneed : need ≠ 0) :
    Calls Try.prog 40 #[.pointer (some ⟨b, 0, none⟩), .int .i64 n, .int .i64 who] w fun e w' => e = .returned (.int .i64 r) ∧ Below base w w' ∧ QB w' base b S' need := by
  have := Add_step base b S need n who w h hS hpos hneed
  rwa [he] at this
theorem Met_at {base b : Nat} {S : List Qs} {need : Int} {w : World} {m : Nat} {r : Bool} (h : QB w base b S need) (he : metN S = m) (hr : decide (need ≤ (m : Int)) = r) (hS : S.length ≤ 1000) (hneed : need ≠ 0) :
    Calls Try.prog 43 #[.pointer (some ⟨b, 0, none⟩)] w fun e w' => e = .returned (.bool r) ∧ Below base w w' ∧ QB w' base b S need := by
  have := Met_step base b S need w h hS hneed
  rwa [he, hr] at this
theorem nodes_14 {base b : Nat} {need : Int} {w : World} (h : QB w base b q3b need) (hneed : need ≠ 0) :
    Calls Try.prog 46 #[.pointer (some ⟨b, 0, none⟩)] w fun e w' => ∃ A c, e = .returned (.slice A 2 c) ∧ Below base w w' ∧ QB w' base b q3b need ∧ Kd.C kI w' A 2 [1, 4] ∧ 2 ≤ c :=
  Nodes_step base b q3b need w h (by decide) hneed
theorem same14 {u : World} {A : Option Addr} {c : Nat} (h : Kd.C kI u A 2 [1, 4]) (hc : 2 ≤ c) :
    Calls Try.prog 34 #[.slice A 2 c, .slice (some ⟨u.heap.size, 0, none⟩) 2 2] (u.alloc (.cells #[.int .i64 1, .int .i64 4] 3)) fun e w' => e = .returned (.bool true) ∧ Below u.heap.size u w' := by
  have hb : Below u.heap.size u (u.alloc (.cells #[.int .i64 1, .int .i64 4] 3)) := (Below.refl _ _).alloc (Nat.le_refl _) _
  exact (Go.Proofs.Ytheafmjdncmpoaa.PQuorumScript.chartularykit_SameInts.calls 9 A c [1, 4] (some ⟨u.heap.size, 0, none⟩) 2 [1, 4] true _ (Kd.C_below h hb) hc (lit_C (heap_alloc_new _ _) rfl (by decide)) (by decide) same_14).mono fun e v ⟨h1, h2⟩ => ⟨h1, below_step hb h2.below⟩
theorem maj5 (w : World) : Calls Try.prog 35 #[.int .i64 5] w fun e w' => e = .returned (.int .i64 3) ∧ w' = w := majority_any 5 w
set_option maxHeartbeats 6400000 in
set_option maxRecDepth 100000 in
theorem awake_any (w : World) : Calls Try.prog 30 #[] w fun e w' => e = .returned (.bool true) ∧ Below w.heap.size w w' := by
  obtain ⟨W, hW⟩ : ∃ W, W = w.alloc (.cells #[.int .i64 1, .int .i64 2, .int .i64 3] 3) := ⟨_, rfl⟩
  have hWB : Below w.heap.size w W := by rw [hW]; exact (Below.refl _ _).alloc (Nat.le_refl _) _
  have hx : W.heap[w.heap.size]? = some (.cells #[.int .i64 1, .int .i64 2, .int .i64 3] 3 (0, 0)) := by rw [hW]; exact heap_alloc_new _ _
  have HNEW := Aside0.mk (New_step (some ⟨w.heap.size, 0, none⟩) 3 [1, 2, 3] 2 W q3 (lit_C hx rfl (by decide)) (by decide) q3_new (by decide))
  have HWB := Aside0.mk hWB
  rw [hW] at HNEW
  go_enter Try.func30, Try.ntmps30
  go_wp2_with (first
    | (go_at_call 32; refine HNEW.out.mono ?_; rintro e w1 ⟨b, rfl, hb, hq⟩; rw [← hW] at hb hq; have HQ := Aside0.mk hq; have HB := Aside0.mk (hb); clear hq hb)
    | (go_at_call 40; (with_reducible refine (Add_at HQ.out q3_add1 (by decide) (by decide) (by decide)).mono ?_); rintro e w2 ⟨rfl, hb, hq⟩; have h1 := Aside0.mk (HB.out.trans hb); have h2 := Aside0.mk hq; clear HB HQ hb hq; have HB := h1; have HQ := h2; clear h1 h2)
    | (go_at_call 40; (with_reducible refine (Add_at HQ.out q3_add2 (by decide) (by decide) (by decide)).mono ?_); rintro e w2 ⟨rfl, hb, hq⟩; have h1 := Aside0.mk (HB.out.trans hb); have h2 := Aside0.mk hq; clear HB HQ hb hq; have HB := h1; have HQ := h2; clear h1 h2)
    | (go_at_call 40; (with_reducible refine (Add_at HQ.out q3_add3 (by decide) (by decide) (by decide)).mono ?_); rintro e w2 ⟨rfl, hb, hq⟩; have h1 := Aside0.mk (HB.out.trans hb); have h2 := Aside0.mk hq; clear HB HQ hb hq; have HB := h1; have HQ := h2; clear h1 h2)
    | (go_at_call 43; (with_reducible refine (Met_at HQ.out q3_met rfl (by decide) (by decide)).mono ?_); rintro e w2 ⟨rfl, hb, hq⟩; have h1 := Aside0.mk (HB.out.trans hb); have h2 := Aside0.mk hq; clear HB HQ hb hq; have HB := h1; have HQ := h2; clear h1 h2)
    | (go_at_call 43; (with_reducible refine (Met_at HQ.out q3_met2 rfl (by decide) (by decide)).mono ?_); rintro e w2 ⟨rfl, hb, hq⟩; have h1 := Aside0.mk (HB.out.trans hb); have h2 := Aside0.mk hq; clear HB HQ hb hq; have HB := h1; have HQ := h2; clear h1 h2)
    | (go_at_call 46; (with_reducible refine (nodes_14 HQ.out (by decide)).mono ?_); rintro e w3 ⟨A, c, rfl, hb, hq, hC, hcap⟩; have HC := Aside0.mk hC; have HP := Aside0.mk hcap; clear hC hcap; have h1 := Aside0.mk (HB.out.trans hb); have h2 := Aside0.mk hq; clear HB HQ hb hq; have HB := h1; have HQ := h2; clear h1 h2)
    | (go_at_call 34; (with_reducible refine (same14 HC.out HP.out).mono ?_); rintro e w4 ⟨rfl, hb⟩; have h1 := Aside0.mk (HB.out.trans (Below.lower hb HQ.out.2)); clear HB hb; have HB := h1; clear h1)
    | (go_at_call 35; (with_reducible refine (maj5 _).mono ?_); rintro e w5 ⟨rfl, hw⟩; have hw := hw.symm; subst hw))
  go_ret
  exact ⟨rfl, below_step HWB.out HB.out⟩
end Go.Proofs.Ytheafmjdncmpoaa
