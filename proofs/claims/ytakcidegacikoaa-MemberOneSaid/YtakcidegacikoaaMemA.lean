/-
  Layer 11 (member): the program's functions that the print's own text does not bear, each by a contract; the plain functions.
-/
import Derived.Test.YtakcidegacikoaaRows
import Derived.Test.YtakcidegacikoaaPMemberTellsx2
import Derived.WalkKit
import Derived.Lib.Hide
import Derived.Deep.RegionHeld3
import Derived.WalkLawsBesides
import Derived.WalkSpells
namespace Go.Proofs.Ytakcidegacikoaa
set_option linter.unusedSimpArgs false
open Go.RowKit Go.Proofs.Ytakcidegacikoaa.PMemberTells Go.Proofs.YtakcidegacikoaaW.PrintWords Go.Proofs.YtakcidegacikoaaW.PrintLast

theorem bnext {w w1 w2 : World} (h : Below w.heap.size w w1) (k : Below w1.heap.size w1 w2) : Below w.heap.size w w2 := h.trans (k.mono h.size)
theorem bcell {W w1 : World} (hb : Below W.heap.size W w1) : (∀ b o, b < W.heap.size → w1.cell? ⟨b, o, none⟩ = W.cell? ⟨b, o, none⟩) ∧ (∀ b o, b < W.heap.size → w1.frozen? ⟨b, o, none⟩ = W.frozen? ⟨b, o, none⟩) :=
  ⟨fun b o h => hb.cell (p := ⟨b, o, none⟩) h, fun b o h => hb.frozen (p := ⟨b, o, none⟩) h⟩
theorem three (w : World) (A B C : Obj) : Below w.heap.size w (((w.alloc A).alloc B).alloc C) :=
  (((Below.refl _ _).alloc (Nat.le_refl _) _).alloc (by simp) _).alloc (by simp; omega) _
theorem cell3 (w : World) (c : Array Value) (t : TypeId) (B C : Obj) (i : Nat) : (((w.alloc (.cells c t)).alloc B).alloc C).cell? ⟨w.heap.size, i, none⟩ = c[i]? := by
  have h : (((w.alloc (.cells c t)).alloc B).alloc C).heap[w.heap.size]? = some (.cells c t (0, 0)) := by
    rw [Below.heap_alloc _ C w.heap.size (by simp; omega), Below.heap_alloc _ B w.heap.size (by simp)]; exact heap_alloc_new _ _
  exact cell_of_row _ _ i _ _ _ h
/-- may a word be? -/
def okM (i s c : Int) : Bool := decide (1 ≤ i ∧ i ≤ 64 ∧ 1 ≤ s ∧ s ≤ 4 ∧ 0 ≤ c ∧ c ≤ 2147483647)
theorem okM_iff (i s c : Int) : okM i s c = true ↔ (1 ≤ i ∧ i ≤ 64 ∧ 1 ≤ s ∧ s ≤ 4 ∧ 0 ≤ c ∧ c ≤ 2147483647) := by unfold okM; rw [decide_eq_true_iff]
def chkM (i s c : Int) : Int := if okM i s c then 0 else 2
theorem check_eq (i s c : Int) : member_Check.f i s c = some (chkM i s c) := by
  unfold member_Check.f chkM okM
  by_cases h1 : i < 1
  · rw [if_pos h1, if_neg (by rw [decide_eq_true_iff]; omega)]
  by_cases h2 : i > 64
  · rw [if_neg h1, if_pos h2, if_neg (by rw [decide_eq_true_iff]; omega)]
  by_cases h3 : s < 1
  · rw [if_neg h1, if_neg h2, if_pos h3, if_neg (by rw [decide_eq_true_iff]; omega)]
  by_cases h4 : s > 4
  · rw [if_neg h1, if_neg h2, if_neg h3, if_pos h4, if_neg (by rw [decide_eq_true_iff]; omega)]
  by_cases h5 : c < 0
  · rw [if_neg h1, if_neg h2, if_neg h3, if_neg h4, if_pos h5, if_neg (by rw [decide_eq_true_iff]; omega)]
  by_cases h6 : c > 2147483647
  · rw [if_neg h1, if_neg h2, if_neg h3, if_neg h4, if_neg h5, if_pos h6, if_neg (by rw [decide_eq_true_iff]; omega)]
  · rw [if_neg h1, if_neg h2, if_neg h3, if_neg h4, if_neg h5, if_neg h6, if_pos (by rw [decide_eq_true_iff]; omega)]
/-- may both be, and are they about one node? -/
def bothM (a0 a1 a2 b0 b1 b2 : Int) : Bool := okM a0 a1 a2 && (okM b0 b1 b2 && (a0 == b0))
theorem both_eq (a0 a1 a2 b0 b1 b2 : Int) : member_both.f a0 a1 a2 b0 b1 b2 = some (bothM a0 a1 a2 b0 b1 b2) := by
  unfold member_both.f bothM
  rw [check_eq, check_eq]
  unfold chkM
  cases okM a0 a1 a2 <;> cases okM b0 b1 b2 <;> simp
def cmpI (x y : Int) : Int := if x < y then -1 else if y < x then 1 else 0
theorem cmp_eq (x y : Int) : cmp_Compare_int.f x y = some (cmpI x y) := by
  unfold cmp_Compare_int.f cmp_isNaN_int.f cmpI
  by_cases h1 : x < y
  · simp [h1]
  · by_cases h2 : y < x <;> simp [h1, h2]
/-- the order of two words about one node -/
def ordI (a1 a2 b1 b2 : Int) : Int := if cmpI a2 b2 = 0 then cmpI a1 b1 else cmpI a2 b2
theorem or_eq (x y : Int) (k : Nat) : cmp_Or_int.f (k + 3) [x, y] = some (if x = 0 then y else x) := by
  unfold cmp_Or_int.f
  by_cases hx : x = 0
  · subst hx
    by_cases hy : y = 0
    · subst hy; simp [cmp_Or_int.l0, rd, wrap64]
    · simp [cmp_Or_int.l0, rd, wrap64, hy]
  · simp [cmp_Or_int.l0, rd, hx]
theorem order_eq (a0 a1 a2 b0 b1 b2 : Int) (k : Nat) : member_order.f (k + 3) a0 a1 a2 b0 b1 b2 = some (ordI a1 a2 b1 b2) := by
  unfold member_order.f ordI
  rw [cmp_eq, cmp_eq]
  simp only [Option.bind_some]
  rw [or_eq]
  rfl
theorem ordI_lt (a1 a2 b1 b2 : Int) : ordI a1 a2 b1 b2 < 0 ↔ (a2 < b2 ∨ a2 = b2 ∧ a1 < b1) := by
  unfold ordI cmpI
  by_cases h1 : a2 < b2
  · simp [h1]
  · by_cases h2 : b2 < a2
    · simp [h1, h2]; omega
    · have : a2 = b2 := by omega
      subst this
      by_cases h3 : a1 < b1
      · simp [h3]
      · by_cases h4 : b1 < a1 <;> simp [h3, h4]
theorem ordI_gt (a1 a2 b1 b2 : Int) : 0 < ordI a1 a2 b1 b2 ↔ (b2 < a2 ∨ a2 = b2 ∧ b1 < a1) := by
  unfold ordI cmpI
  by_cases h1 : a2 < b2
  · simp [h1]; omega
  · by_cases h2 : b2 < a2
    · simp [h1, h2]
    · have : a2 = b2 := by omega
      subst this
      by_cases h3 : a1 < b1
      · simp [h3]; omega
      · by_cases h4 : b1 < a1 <;> simp [h3, h4]
/-- which word is left of two, and an error -/
def mergeI (a0 a1 a2 b0 b1 b2 : Int) : Int × Int × Int × Int :=
  if bothM a0 a1 a2 b0 b1 b2 then (if ordI a1 a2 b1 b2 < 0 then (b0, b1, b2, 0) else (a0, a1, a2, 0)) else (0, 0, 0, 2)
theorem merge_eq (a0 a1 a2 b0 b1 b2 : Int) (k : Nat) : member_Merge.f (k + 3) a0 a1 a2 b0 b1 b2 = some (mergeI a0 a1 a2 b0 b1 b2) := by
  unfold member_Merge.f mergeI
  rw [both_eq]
  simp only [Option.bind_some]
  cases bothM a0 a1 a2 b0 b1 b2
  · rfl
  · rw [order_eq]
    simp only [Option.bind_some, if_true]
    by_cases h : ordI a1 a2 b1 b2 < 0 <;> simp [h]
/-- what a node is behind a word about itself; is it told; an error -/
def refI (a0 a1 a2 b0 b1 b2 : Int) : Int × Int × Int × Bool × Int :=
  if bothM a0 a1 a2 b0 b1 b2 = false ∨ a1 ≠ 1 then (0, 0, 0, false, 2)
  else if b1 ≠ 1 ∧ a2 ≤ b2 then (if b2 = 2147483647 then (0, 0, 0, false, 5) else (a0, a1, b2 + 1, true, 0))
  else if b1 = 1 ∧ a2 < b2 then (a0, a1, b2, false, 0) else (a0, a1, a2, false, 0)
def refV (r : Int × Int × Int × Bool × Int) : Value := .tuple #[.agg #[.int .i64 r.1, .int .i64 r.2.1, .int .i64 r.2.2.1], .bool r.2.2.2.1, .int .i64 r.2.2.2.2]
theorem both_any (a0 a1 a2 b0 b1 b2 : Int) (w : World) : Calls Try.prog 24 #[.agg #[.int .i64 a0, .int .i64 a1, .int .i64 a2], .agg #[.int .i64 b0, .int .i64 b1, .int .i64 b2]] w fun e w' =>
    e = .returned (.bool (bothM a0 a1 a2 b0 b1 b2)) ∧ Below w.heap.size w w' := member_both.calls _ _ _ _ _ _ _ w (both_eq _ _ _ _ _ _)
set_option maxHeartbeats 1600000 in
theorem refute_any (a0 a1 a2 b0 b1 b2 : Int) (w : World) : Calls Try.prog 12 #[.agg #[.int .i64 a0, .int .i64 a1, .int .i64 a2], .agg #[.int .i64 b0, .int .i64 b1, .int .i64 b2]] w fun e w' =>
    e = .returned (refV (refI a0 a1 a2 b0 b1 b2)) ∧ Below w.heap.size w w' := by
  cases hb : bothM a0 a1 a2 b0 b1 b2 with
  | false =>
    have H := Lib.hid (show refI a0 a1 a2 b0 b1 b2 = (0, 0, 0, false, 2) by unfold refI; rw [if_pos (Or.inl hb)])
    go_enter Try.func12, Try.ntmps12
    go_wp2_with (go_at_call 24; (with_reducible refine (both_any _ _ _ _ _ _ _).mono ?_); rintro e w1 ⟨rfl, hb1⟩; obtain ⟨hc1, hf1⟩ := bcell hb1; have HB : Below w.heap.size w w1 := ((three _ _ _ _).trans (hb1.mono (by simp; omega))); have HB1 := Lib.hid HB; have q0 := (hc1 w.heap.size 0 (by simp; omega)).trans (cell3 w _ _ _ _ 0); have q1 := (hc1 w.heap.size 1 (by simp; omega)).trans (cell3 w _ _ _ _ 1); have q2 := (hc1 w.heap.size 2 (by simp; omega)).trans (cell3 w _ _ _ _ 2); simp at q0 q1 q2; clear hb1 HB)
    exact bodyPost_ret (v := refV (0, 0, 0, false, 2)) (by simp [results, Try.results12, go_sem, refV, hc1, q0, q1, q2]) rfl ⟨by rw [H.out], by repeat (first | exact HB1.out | refine Below.setCell ?_ (by simp <;> omega) _)⟩
  | true =>
    by_cases h1 : a1 = 1
    · subst h1
      have hbd : okM a0 1 a2 = true ∧ okM b0 b1 b2 = true := by
        unfold bothM at hb
        simp only [Bool.and_eq_true] at hb
        exact ⟨hb.1, hb.2.1⟩
      have k1 := (okM_iff _ _ _).1 hbd.1
      have k2 := (okM_iff _ _ _).1 hbd.2
      have m1 : b2 ≤ 2147483647 := by omega
      have m2 : 0 ≤ b2 := by omega
      by_cases h2 : b1 = 1
      · subst h2
        by_cases h3 : a2 < b2
        · have H := Lib.hid (show refI a0 1 a2 b0 1 b2 = (a0, 1, b2, false, 0) by unfold refI; rw [if_neg (by simp [hb]), if_neg (by simp), if_pos ⟨rfl, h3⟩])
          clear hbd k1 k2
          go_enter Try.func12, Try.ntmps12
          go_wp2_with (go_at_call 24; (with_reducible refine (both_any _ _ _ _ _ _ _).mono ?_); rintro e w1 ⟨rfl, hb1⟩; obtain ⟨hc1, hf1⟩ := bcell hb1; have HB : Below w.heap.size w w1 := ((three _ _ _ _).trans (hb1.mono (by simp; omega))); have HB1 := Lib.hid HB; have q0 := (hc1 w.heap.size 0 (by simp; omega)).trans (cell3 w _ _ _ _ 0); have q1 := (hc1 w.heap.size 1 (by simp; omega)).trans (cell3 w _ _ _ _ 1); have q2 := (hc1 w.heap.size 2 (by simp; omega)).trans (cell3 w _ _ _ _ 2); simp at q0 q1 q2; clear hb1 HB)
          exact bodyPost_ret (v := refV (a0, 1, b2, false, 0)) (by simp [results, Try.results12, go_sem, refV, hc1, q0, q1, q2]) rfl ⟨by rw [H.out], by repeat (first | exact HB1.out | refine Below.setCell ?_ (by simp <;> omega) _)⟩
        · have H := Lib.hid (show refI a0 1 a2 b0 1 b2 = (a0, 1, a2, false, 0) by unfold refI; rw [if_neg (by simp [hb]), if_neg (by simp), if_neg (by omega)])
          clear hbd k1 k2
          go_enter Try.func12, Try.ntmps12
          go_wp2_with (go_at_call 24; (with_reducible refine (both_any _ _ _ _ _ _ _).mono ?_); rintro e w1 ⟨rfl, hb1⟩; obtain ⟨hc1, hf1⟩ := bcell hb1; have HB : Below w.heap.size w w1 := ((three _ _ _ _).trans (hb1.mono (by simp; omega))); have HB1 := Lib.hid HB; have q0 := (hc1 w.heap.size 0 (by simp; omega)).trans (cell3 w _ _ _ _ 0); have q1 := (hc1 w.heap.size 1 (by simp; omega)).trans (cell3 w _ _ _ _ 1); have q2 := (hc1 w.heap.size 2 (by simp; omega)).trans (cell3 w _ _ _ _ 2); simp at q0 q1 q2; clear hb1 HB)
          exact bodyPost_ret (v := refV (a0, 1, a2, false, 0)) (by simp [results, Try.results12, go_sem, refV, hc1, q0, q1, q2]) rfl ⟨by rw [H.out], by repeat (first | exact HB1.out | refine Below.setCell ?_ (by simp <;> omega) _)⟩
      · have h2' : (b1 == 1) = false := by simpa using h2
        by_cases h3 : a2 ≤ b2
        · by_cases h4 : b2 = 2147483647
          · subst h4
            have H := Lib.hid (show refI a0 1 a2 b0 b1 2147483647 = (0, 0, 0, false, 5) by unfold refI; rw [if_neg (by simp [hb]), if_pos ⟨h2, h3⟩, if_pos rfl])
            clear hbd k1 k2
            go_enter Try.func12, Try.ntmps12
            go_wp2_with (go_at_call 24; (with_reducible refine (both_any _ _ _ _ _ _ _).mono ?_); rintro e w1 ⟨rfl, hb1⟩; obtain ⟨hc1, hf1⟩ := bcell hb1; have HB : Below w.heap.size w w1 := ((three _ _ _ _).trans (hb1.mono (by simp; omega))); have HB1 := Lib.hid HB; have q0 := (hc1 w.heap.size 0 (by simp; omega)).trans (cell3 w _ _ _ _ 0); have q1 := (hc1 w.heap.size 1 (by simp; omega)).trans (cell3 w _ _ _ _ 1); have q2 := (hc1 w.heap.size 2 (by simp; omega)).trans (cell3 w _ _ _ _ 2); simp at q0 q1 q2; clear hb1 HB)
            exact bodyPost_ret (v := refV (0, 0, 0, false, 5)) (by simp [results, Try.results12, go_sem, refV, hc1, q0, q1, q2]) rfl ⟨by rw [H.out], by repeat (first | exact HB1.out | refine Below.setCell ?_ (by simp <;> omega) _)⟩
          · have H := Lib.hid (show refI a0 1 a2 b0 b1 b2 = (a0, 1, b2 + 1, true, 0) by unfold refI; rw [if_neg (by simp [hb]), if_pos ⟨h2, h3⟩, if_neg h4])
            clear hbd k1 k2
            go_enter Try.func12, Try.ntmps12
            go_wp2_with (go_at_call 24; (with_reducible refine (both_any _ _ _ _ _ _ _).mono ?_); rintro e w1 ⟨rfl, hb1⟩; obtain ⟨hc1, hf1⟩ := bcell hb1; have HB : Below w.heap.size w w1 := ((three _ _ _ _).trans (hb1.mono (by simp; omega))); have HB1 := Lib.hid HB; have q0 := (hc1 w.heap.size 0 (by simp; omega)).trans (cell3 w _ _ _ _ 0); have q1 := (hc1 w.heap.size 1 (by simp; omega)).trans (cell3 w _ _ _ _ 1); have q2 := (hc1 w.heap.size 2 (by simp; omega)).trans (cell3 w _ _ _ _ 2); simp at q0 q1 q2; clear hb1 HB)
            exact bodyPost_ret (v := refV (a0, 1, b2 + 1, true, 0)) (by simp [results, Try.results12, go_sem, refV, hc1, q0, q1, q2]) rfl ⟨by rw [H.out], by repeat (first | exact HB1.out | refine Below.setCell ?_ (by simp <;> omega) _)⟩
        · have H := Lib.hid (show refI a0 1 a2 b0 b1 b2 = (a0, 1, a2, false, 0) by unfold refI; rw [if_neg (by simp [hb]), if_neg (by omega), if_neg (by omega)])
          clear hbd k1 k2
          go_enter Try.func12, Try.ntmps12
          go_wp2_with (go_at_call 24; (with_reducible refine (both_any _ _ _ _ _ _ _).mono ?_); rintro e w1 ⟨rfl, hb1⟩; obtain ⟨hc1, hf1⟩ := bcell hb1; have HB : Below w.heap.size w w1 := ((three _ _ _ _).trans (hb1.mono (by simp; omega))); have HB1 := Lib.hid HB; have q0 := (hc1 w.heap.size 0 (by simp; omega)).trans (cell3 w _ _ _ _ 0); have q1 := (hc1 w.heap.size 1 (by simp; omega)).trans (cell3 w _ _ _ _ 1); have q2 := (hc1 w.heap.size 2 (by simp; omega)).trans (cell3 w _ _ _ _ 2); simp at q0 q1 q2; clear hb1 HB)
          exact bodyPost_ret (v := refV (a0, 1, a2, false, 0)) (by simp [results, Try.results12, go_sem, refV, hc1, q0, q1, q2]) rfl ⟨by rw [H.out], by repeat (first | exact HB1.out | refine Below.setCell ?_ (by simp <;> omega) _)⟩
    · have H := Lib.hid (show refI a0 a1 a2 b0 b1 b2 = (0, 0, 0, false, 2) by unfold refI; rw [if_pos (Or.inr h1)])
      go_enter Try.func12, Try.ntmps12
      go_wp2_with (go_at_call 24; (with_reducible refine (both_any _ _ _ _ _ _ _).mono ?_); rintro e w1 ⟨rfl, hb1⟩; obtain ⟨hc1, hf1⟩ := bcell hb1; have HB : Below w.heap.size w w1 := ((three _ _ _ _).trans (hb1.mono (by simp; omega))); have HB1 := Lib.hid HB; have q0 := (hc1 w.heap.size 0 (by simp; omega)).trans (cell3 w _ _ _ _ 0); have q1 := (hc1 w.heap.size 1 (by simp; omega)).trans (cell3 w _ _ _ _ 1); have q2 := (hc1 w.heap.size 2 (by simp; omega)).trans (cell3 w _ _ _ _ 2); simp at q0 q1 q2; clear hb1 HB)
      exact bodyPost_ret (v := refV (0, 0, 0, false, 2)) (by simp [results, Try.results12, go_sem, refV, hc1, q0, q1, q2]) rfl ⟨by rw [H.out], by repeat (first | exact HB1.out | refine Below.setCell ?_ (by simp <;> omega) _)⟩
end Go.Proofs.Ytakcidegacikoaa
