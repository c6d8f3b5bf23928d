/-
  QuorumKnown, walked and answered.
-/
import Derived.Test.YtheafmjdncmpoaaQuoW
namespace Go.Proofs.Ytheafmjdncmpoaa
set_option linter.unusedSimpArgs false
set_option linter.unusedVariables false
open Go.RowKit Go.Proofs.YtheafmjdncmpoaaW.PrintWords Go.Proofs.YtheafmjdncmpoaaW.PrintMore

def q3c : List Qs := [⟨1, 0, some 1⟩, ⟨2, 0, some 4⟩, ⟨3, 1, none⟩]
theorem q3_add4 : addI q3a 2 1 = (7, q3a) := by rfl
theorem q3_lose1 : loseI q3b 1 = (9, q3b) := by rfl
theorem q3_lose2 : loseI q3b 3 = (0, q3c) := by rfl
theorem q3_lose3 : loseI q3c 3 = (9, q3c) := by rfl
theorem q3_add5 : addI q3c 3 3 = (9, q3c) := by rfl
theorem q3_add6 : addI q3c 9 9 = (6, q3c) := by rfl
theorem Lose_at {base b : Nat} {S S' : List Qs} {need n r : Int} {w : World} (h : QB w base b S need) (he : loseI S n = (r, S')) (hS : S.length ≤ 1000) (hpos : 0 < S.length) (hneed : need ≠ 0) :
    Calls Try.prog 38 #[.pointer (some ⟨b, 0, none⟩), .int .i64 n] w fun e w' => e = .returned (.int .i64 r) ∧ Below base w w' ∧ QB w' base b S' need := by
  have := Lose_step base b S need n w h hS hpos hneed
  rwa [he] at this
theorem open_c {base b : Nat} {need : Int} {w : World} (h : QB w base b q3c need) (hneed : need ≠ 0) :
    Calls Try.prog 45 #[.pointer (some ⟨b, 0, none⟩)] w fun e w' => ∃ A c, e = .returned (.slice A 0 c) ∧ Below base w w' ∧ QB w' base b q3c need :=
  (Open_step base b q3c need w h (by decide) hneed).mono fun e u ⟨A, c, h1, h2, h3, _⟩ => ⟨A, c, h1, h2, h3⟩
theorem lost_c {base b : Nat} {w : World} (h : QB w base b q3c 2) :
    Calls Try.prog 44 #[.pointer (some ⟨b, 0, none⟩)] w fun e w' => e = .returned (.bool false) ∧ Below base w w' ∧ QB w' base b q3c 2 :=
  Lost_step base b q3c 2 w h (by decide) (by decide)
theorem maj4 (w : World) : Calls Try.prog 35 #[.int .i64 4] w fun e w' => e = .returned (.int .i64 3) ∧ w' = w := majority_any 4 w
theorem maj0 (w : World) : Calls Try.prog 35 #[.int .i64 0] w fun e w' => e = .returned (.int .i64 0) ∧ w' = w := majority_any 0 w
theorem new_q3 (u : World) : Calls Try.prog 32 #[.slice (some ⟨u.heap.size, 0, none⟩) 3 3, .int .i64 2] (u.alloc (.cells #[.int .i64 1, .int .i64 2, .int .i64 3] 3)) fun e w' => ∃ b, e = .returned (.tuple #[.pointer (some ⟨b, 0, none⟩), .int .i64 0]) ∧ Below u.heap.size u w' ∧ QB w' u.heap.size b q3 2 := by
  have hb : Below u.heap.size u (u.alloc (.cells #[.int .i64 1, .int .i64 2, .int .i64 3] 3)) := (Below.refl _ _).alloc (Nat.le_refl _) _
  refine (New_step (some ⟨u.heap.size, 0, none⟩) 3 [1, 2, 3] 2 _ q3 (lit_C (heap_alloc_new _ _) rfl (by decide)) (by decide) q3_new (by decide)).mono fun e v ⟨b, h1, h2, h3⟩ => ⟨b, h1, below_step hb h2, ?_⟩
  obtain ⟨⟨x, k1, k2, k3, k4⟩, h4⟩ := h3
  have hle : u.heap.size ≤ (u.alloc (.cells #[.int .i64 1, .int .i64 2, .int .i64 3] 3)).heap.size := hb.size
  exact ⟨⟨x, Nat.le_trans hle k1, Nat.le_trans hle k2, k3, Kd.R_mono (Kd.R_lower k4 hle) (fun k hk => Nat.le_trans hle hk)⟩, Nat.le_trans hle h4⟩
theorem new_11 (u : World) : Calls Try.prog 32 #[.slice (some ⟨u.heap.size, 0, none⟩) 2 2, .int .i64 1] (u.alloc (.cells #[.int .i64 1, .int .i64 1] 3)) fun e w' => e = .returned (.tuple #[.pointer none, .int .i64 2]) ∧ Below u.heap.size u w' := by
  have hb : Below u.heap.size u (u.alloc (.cells #[.int .i64 1, .int .i64 1] 3)) := (Below.refl _ _).alloc (Nat.le_refl _) _
  exact (New_fails (some ⟨u.heap.size, 0, none⟩) 2 [1, 1] 1 _ (lit_C (heap_alloc_new _ _) rfl (by decide)) (by decide) (.inl rfl)).mono fun e v ⟨h1, h2⟩ => ⟨h1, below_step hb h2⟩
theorem new_12 (u : World) : Calls Try.prog 32 #[.slice (some ⟨u.heap.size, 0, none⟩) 2 2, .int .i64 3] (u.alloc (.cells #[.int .i64 1, .int .i64 2] 3)) fun e w' => e = .returned (.tuple #[.pointer none, .int .i64 2]) ∧ Below u.heap.size u w' := by
  have hb : Below u.heap.size u (u.alloc (.cells #[.int .i64 1, .int .i64 2] 3)) := (Below.refl _ _).alloc (Nat.le_refl _) _
  exact (New_fails (some ⟨u.heap.size, 0, none⟩) 2 [1, 2] 3 _ (lit_C (heap_alloc_new _ _) rfl (by decide)) (by decide) (.inr (.inr (by decide)))).mono fun e v ⟨h1, h2⟩ => ⟨h1, below_step hb h2⟩
set_option maxHeartbeats 6400000 in
set_option maxRecDepth 100000 in
theorem quorumKnown_walk (w : World) : Calls Try.prog 10 #[] w fun e w' => e = .returned (.bool true) ∧ Below w.heap.size w w' := by
  go_enter Try.func10, Try.ntmps10
  go_wp2_with (first
    | (go_at_call 32; (with_reducible refine (new_q3 _).mono ?_); rintro e w1 ⟨b, rfl, hb, hq⟩; have HQ := Aside0.mk hq; have HB := Aside0.mk hb; clear hq hb)
    | (go_at_call 32; (with_reducible refine (new_11 _).mono ?_); rintro e w4 ⟨rfl, hb⟩; have h1 := Aside0.mk (below_step HB.out hb); clear HB hb; have HB := h1; clear h1)
    | (go_at_call 32; (with_reducible refine (new_12 _).mono ?_); rintro e w4 ⟨rfl, hb⟩; have h1 := Aside0.mk (below_step HB.out hb); clear HB hb; have HB := h1; clear h1)
    | (go_at_call 40; (with_reducible refine (Add_at HQ.out q3_add1 (by decide) (by decide) (by decide)).mono ?_); rintro e w2 ⟨rfl, hb, hq⟩; have h1 := Aside0.mk (HB.out.trans hb); have h2 := Aside0.mk hq; clear HB HQ hb hq; have HB := h1; have HQ := h2; clear h1 h2)
    | (go_at_call 40; (with_reducible refine (Add_at HQ.out q3_add4 (by decide) (by decide) (by decide)).mono ?_); rintro e w2 ⟨rfl, hb, hq⟩; have h1 := Aside0.mk (HB.out.trans hb); have h2 := Aside0.mk hq; clear HB HQ hb hq; have HB := h1; have HQ := h2; clear h1 h2)
    | (go_at_call 40; (with_reducible refine (Add_at HQ.out q3_add3 (by decide) (by decide) (by decide)).mono ?_); rintro e w2 ⟨rfl, hb, hq⟩; have h1 := Aside0.mk (HB.out.trans hb); have h2 := Aside0.mk hq; clear HB HQ hb hq; have HB := h1; have HQ := h2; clear h1 h2)
    | (go_at_call 40; (with_reducible refine (Add_at HQ.out q3_add5 (by decide) (by decide) (by decide)).mono ?_); rintro e w2 ⟨rfl, hb, hq⟩; have h1 := Aside0.mk (HB.out.trans hb); have h2 := Aside0.mk hq; clear HB HQ hb hq; have HB := h1; have HQ := h2; clear h1 h2)
    | (go_at_call 40; (with_reducible refine (Add_at HQ.out q3_add6 (by decide) (by decide) (by decide)).mono ?_); rintro e w2 ⟨rfl, hb, hq⟩; have h1 := Aside0.mk (HB.out.trans hb); have h2 := Aside0.mk hq; clear HB HQ hb hq; have HB := h1; have HQ := h2; clear h1 h2)
    | (go_at_call 38; (with_reducible refine (Lose_at HQ.out q3_lose1 (by decide) (by decide) (by decide)).mono ?_); rintro e w2 ⟨rfl, hb, hq⟩; have h1 := Aside0.mk (HB.out.trans hb); have h2 := Aside0.mk hq; clear HB HQ hb hq; have HB := h1; have HQ := h2; clear h1 h2)
    | (go_at_call 38; (with_reducible refine (Lose_at HQ.out q3_lose2 (by decide) (by decide) (by decide)).mono ?_); rintro e w2 ⟨rfl, hb, hq⟩; have h1 := Aside0.mk (HB.out.trans hb); have h2 := Aside0.mk hq; clear HB HQ hb hq; have HB := h1; have HQ := h2; clear h1 h2)
    | (go_at_call 38; (with_reducible refine (Lose_at HQ.out q3_lose3 (by decide) (by decide) (by decide)).mono ?_); rintro e w2 ⟨rfl, hb, hq⟩; have h1 := Aside0.mk (HB.out.trans hb); have h2 := Aside0.mk hq; clear HB HQ hb hq; have HB := h1; have HQ := h2; clear h1 h2)
    | (go_at_call 45; (with_reducible refine (open_c HQ.out (by decide)).mono ?_); rintro e w3 ⟨A, c, rfl, hb, hq⟩; have h1 := Aside0.mk (HB.out.trans hb); have h2 := Aside0.mk hq; clear HB HQ hb hq; have HB := h1; have HQ := h2; clear h1 h2)
    | (go_at_call 44; (with_reducible refine (lost_c HQ.out).mono ?_); rintro e w2 ⟨rfl, hb, hq⟩; have h1 := Aside0.mk (HB.out.trans hb); have h2 := Aside0.mk hq; clear HB HQ hb hq; have HB := h1; have HQ := h2; clear h1 h2)
    | (go_at_call 30; (with_reducible refine (awake_any _).mono ?_); rintro e w4 ⟨rfl, hb⟩; have h1 := Aside0.mk (below_step HB.out hb); clear HB hb; have HB := h1; clear h1)
    | (go_at_call 35; (with_reducible refine (maj4 _).mono ?_); rintro e w5 ⟨rfl, hw⟩; have hw := hw.symm; subst hw)
    | (go_at_call 35; (with_reducible refine (maj0 _).mono ?_); rintro e w5 ⟨rfl, hw⟩; have hw := hw.symm; subst hw))
  go_ret
  exact ⟨rfl, HB.out⟩
end Go.Proofs.Ytheafmjdncmpoaa
