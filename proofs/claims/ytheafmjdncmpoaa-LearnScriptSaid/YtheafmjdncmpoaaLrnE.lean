/-
  Learn: ballots: Check, Less; Heard.
-/
import Derived.Test.YtheafmjdncmpoaaLrnD
namespace Go.Proofs.Ytheafmjdncmpoaa
set_option linter.unusedSimpArgs false
set_option linter.unusedVariables false
open Go.Proofs.Ytheafmjdncmpoaa.PLearnScript
open Go.RowKit Go.Proofs.YtheafmjdncmpoaaW.PrintWords Go.Proofs.YtheafmjdncmpoaaW.PrintMore

def checkB (n d : Int) : Bool := decide (1 ≤ n ∧ n ≤ 2147483647 ∧ 1 ≤ d ∧ d ≤ 64)
theorem check_any (n d : Int) (w : World) : Calls Try.prog 22 #[.agg #[.int .i64 n, .int .i64 d]] w fun e w' => e = .returned (.int .i64 (if checkB n d then 0 else 2)) ∧ Below w.heap.size w w' := by
  have hf : PLearnScript.ballot_Check.f n d = some (if checkB n d then 0 else 2) := by
    unfold PLearnScript.ballot_Check.f checkB
    by_cases h1 : n < 1
    · rw [if_pos h1, if_neg (by simp; omega)]
    · rw [if_neg h1]
      by_cases h2 : n > 2147483647
      · rw [if_pos h2, if_neg (by simp; omega)]
      · rw [if_neg h2]
        by_cases h3 : d < 1
        · rw [if_pos h3, if_neg (by simp; omega)]
        · rw [if_neg h3]
          by_cases h4 : d > 64
          · rw [if_pos h4, if_neg (by simp; omega)]
          · rw [if_neg h4, if_pos (by simp; omega)]
  exact (PLearnScript.ballot_Check.calls n d _ w hf).mono fun e u h => h
def cmpI (x y : Int) : Int := if x < y then -1 else if y < x then 1 else 0
theorem cmp_eq (x y : Int) : cmp_Compare_int.f x y = some (cmpI x y) := by
  unfold cmp_Compare_int.f cmp_isNaN_int.f cmpI
  by_cases h1 : x < y
  · simp [h1]
  · by_cases h2 : y < x <;> simp [h1, h2]
theorem or_eq (x y : Int) (k : Nat) : cmp_Or_int.f (k + 3) [x, y] = some (if x = 0 then y else x) := by
  unfold cmp_Or_int.f
  by_cases hx : x = 0
  · subst hx
    by_cases hy : y = 0
    · subst hy; simp [cmp_Or_int.l0, rd, wrap64]
    · simp [cmp_Or_int.l0, rd, wrap64, hy]
  · simp [cmp_Or_int.l0, rd, hx]
def ordB (a0 a1 b0 b1 : Int) : Int := if cmpI a0 b0 = 0 then cmpI a1 b1 else cmpI a0 b0
theorem order_eq (a0 a1 b0 b1 : Int) (k : Nat) : ballot_order.f (k + 3) a0 a1 b0 b1 = some (ordB a0 a1 b0 b1) := by
  unfold ballot_order.f ordB
  rw [cmp_eq, cmp_eq]
  simp only [Option.bind_some]
  rw [or_eq]
  rfl
/-- is one ballot less than another one? -/
def lessB (a0 a1 b0 b1 : Int) : Bool := decide (a0 < b0 ∨ (a0 = b0 ∧ a1 < b1))
theorem lessB_iff (a0 a1 b0 b1 : Int) : lessB a0 a1 b0 b1 = true ↔ (a0 < b0 ∨ (a0 = b0 ∧ a1 < b1)) := by unfold lessB; rw [decide_eq_true_iff]
theorem lessB_not (a0 a1 b0 b1 : Int) : lessB a0 a1 b0 b1 = false ↔ ¬ (a0 < b0 ∨ (a0 = b0 ∧ a1 < b1)) := by unfold lessB; rw [decide_eq_false_iff_not]
theorem ordB_lt (a0 a1 b0 b1 : Int) : decide (ordB a0 a1 b0 b1 < 0) = lessB a0 a1 b0 b1 := by
  unfold ordB cmpI lessB
  rw [decide_eq_decide]
  by_cases h1 : a0 < b0
  · simp [h1]
  · by_cases h2 : b0 < a0
    · simp [h1, h2]; omega
    · have : a0 = b0 := by omega
      subst this
      by_cases h3 : a1 < b1
      · simp [h3]
      · by_cases h4 : b1 < a1 <;> simp [h3, h4]
theorem less_eq (a0 a1 b0 b1 : Int) (k : Nat) : ballot_Less.f (k + 3) a0 a1 b0 b1 = some (lessB a0 a1 b0 b1) := by
  unfold ballot_Less.f
  rw [order_eq, Option.bind_some, ordB_lt]
theorem less_any (a b c d : Int) (w : World) : Calls Try.prog 23 #[.agg #[.int .i64 a, .int .i64 b], .agg #[.int .i64 c, .int .i64 d]] w fun e w' => e = .returned (.bool (lessB a b c d)) ∧ Below w.heap.size w w' :=
  PLearnScript.ballot_Less.calls 3 a b c d _ w (less_eq a b c d 0)
/-- the greatest ballot of a node -/
def heardI (L : Lr) (k : Int) : Int × Int := if k < 1 ∨ (L.nodes : Int) < k then (0, 0) else ((L.of k.toNat).n, (L.of k.toNat).d)
set_option maxHeartbeats 1600000 in
set_option maxRecDepth 100000 in
theorem heard_any {w : World} {base : Nat} {F : Nat → Prop} {b : Nat} {L : Lr} (h : LAt w base F b L) (hn : 1 ≤ L.nodes ∧ L.nodes ≤ 64) (k : Int) :
    Calls Try.prog 60 #[.pointer (some ⟨b, 0, none⟩), .int .i64 k] w fun e w' => e = .returned (.agg #[.int .i64 (heardI L k).1, .int .i64 (heardI L k).2]) ∧ Below w.heap.size w w' := by
  obtain ⟨A1, c1, q0, q1, q2, hg⟩ := h.tail
  have hbw : b < w.heap.size := World.block_lt_of_cell? w _ q0
  have HN := Aside0.mk (fun u (hb : Below w.heap.size w u) => by
    have := none80_at b L.nodes u (pw_cell_below hb q0)
    rw [show ((L.nodes : Int) == 0) = false by simp; omega] at this
    exact this)
  have HB := Aside0.mk ((Below.refl w.heap.size w).alloc (o := .cells #[.int .i64 0, .int .i64 0] 23) (Nat.le_refl _))
  by_cases h1 : k < 1
  · have e : heardI L k = (0, 0) := by unfold heardI; rw [if_pos (.inl h1)]
    rw [e]
    clear e h hg
    go_enter Try.func60, Try.ntmps60
    go_wp2_with (go_at_call 80; (with_reducible refine (HN.out _ HB.out).mono ?_); rintro e w1 ⟨rfl, hw⟩; have hw := hw.symm; subst hw)
    exact bodyPost_ret (results_cell_row rfl _ _ w.heap.size 23 #[.int .i64 0, .int .i64 0] (0, 0) _ rfl (heap_alloc_new _ _) Try.underlying23 rfl (by kernel_rfl)) rfl ⟨rfl, HB.out⟩
  · have h1' : 1 ≤ k := by omega
    by_cases h2 : (L.nodes : Int) < k
    · have e : heardI L k = (0, 0) := by unfold heardI; rw [if_pos (.inr h2)]
      rw [e]
      clear e h hg h1
      go_enter Try.func60, Try.ntmps60
      go_wp2_with (go_at_call 80; (with_reducible refine (HN.out _ HB.out).mono ?_); rintro e w1 ⟨rfl, hw⟩; have hw := hw.symm; subst hw)
      exact bodyPost_ret (results_cell_row rfl _ _ w.heap.size 23 #[.int .i64 0, .int .i64 0] (0, 0) _ rfl (heap_alloc_new _ _) Try.underlying23 rfl (by kernel_rfl)) rfl ⟨rfl, HB.out⟩
    · have h2' : k ≤ (L.nodes : Int) := by omega
      have e : heardI L k = ((L.of k.toNat).n, (L.of k.toNat).d) := by unfold heardI; rw [if_neg (by omega)]
      rw [e]
      obtain ⟨i, rfl⟩ := Int.eq_ofNat_of_zero_le (show 0 ≤ k by omega)
      rw [Int.toNat_natCast]
      obtain ⟨A2, c2, ⟨p0, p1, p2⟩, _⟩ := h.heard (i := i) (by omega)
      simp only at p0 p1
      clear e h hg h1 h2 p2
      obtain ⟨⟨hn', hd', hx'⟩, hh⟩ : ∃ q, L.of i = q := ⟨_, rfl⟩
      rw [hh] at p0 p1 ⊢
      simp only at p0 p1 ⊢
      clear hh
      have hi : (i : Int) < 65 := by omega
      have HB2 := Aside0.mk ((Below.refl w.heap.size w).alloc (o := .cells #[.int .i64 hn', .int .i64 hd'] 23) (Nat.le_refl _))
      go_enter Try.func60, Try.ntmps60
      go_wp2_with (go_at_call 80; (with_reducible refine (HN.out _ HB.out).mono ?_); rintro e w1 ⟨rfl, hw⟩; have hw := hw.symm; subst hw)
      exact bodyPost_ret (results_cell_row rfl _ _ w.heap.size 23 #[.int .i64 hn', .int .i64 hd'] (0, 0) _ rfl (heap_alloc_new _ _) Try.underlying23 rfl (by kernel_rfl)) rfl ⟨rfl, HB2.out⟩
end Go.Proofs.Ytheafmjdncmpoaa
