/-
  The plain laws of ballot: what the walks compute. No program in sight.
-/
import Derived.Test.YtheafmjdncmpoaaBalG
namespace Go.Proofs.Ytheafmjdncmpoaa
set_option linter.unusedSimpArgs false
set_option linter.unusedVariables false
open Go.RowKit Go.Proofs.Ytheafmjdncmpoaa.PBallotTells Go.Proofs.YtheafmjdncmpoaaW.PrintWords Go.Proofs.YtheafmjdncmpoaaW.PrintMore

/-- may a ballot be? -/
def okB (n d : Int) : Bool := decide (1 ≤ n ∧ n ≤ 2147483647 ∧ 1 ≤ d ∧ d ≤ 64)
theorem okB_iff (n d : Int) : okB n d = true ↔ (1 ≤ n ∧ n ≤ 2147483647 ∧ 1 ≤ d ∧ d ≤ 64) := by unfold okB; rw [decide_eq_true_iff]
theorem okB_not (n d : Int) : okB n d = false ↔ ¬ (1 ≤ n ∧ n ≤ 2147483647 ∧ 1 ≤ d ∧ d ≤ 64) := by unfold okB; rw [decide_eq_false_iff_not]
def chkB (n d : Int) : Int := if okB n d then 0 else 2
theorem check_eq (n d : Int) : ballot_Check.f n d = some (chkB n d) := by
  unfold ballot_Check.f chkB okB
  by_cases h1 : n < 1
  · rw [if_pos h1, if_neg (by rw [decide_eq_true_iff]; omega)]
  by_cases h2 : n > 2147483647
  · rw [if_neg h1, if_pos h2, if_neg (by rw [decide_eq_true_iff]; omega)]
  by_cases h3 : d < 1
  · rw [if_neg h1, if_neg h2, if_pos h3, if_neg (by rw [decide_eq_true_iff]; omega)]
  by_cases h4 : d > 64
  · rw [if_neg h1, if_neg h2, if_neg h3, if_pos h4, if_neg (by rw [decide_eq_true_iff]; omega)]
  · rw [if_neg h1, if_neg h2, if_neg h3, if_neg h4, if_pos (by rw [decide_eq_true_iff]; omega)]
def cmpI (x y : Int) : Int := if x < y then -1 else if y < x then 1 else 0
theorem cmp_eq (x y : Int) : cmp_Compare_int.f x y = some (cmpI x y) := by
  unfold cmp_Compare_int.f cmp_isNaN_int.f cmpI
  by_cases h1 : x < y
  · simp [h1]
  · by_cases h2 : y < x <;> simp [h1, h2]
theorem or_eq (x y : Int) (k : Nat) : cmp_Or_int.f (k + 3) [x, y] = some (if x = 0 then y else x) := by
  unfold cmp_Or_int.f
  by_cases hx : x = 0
  · subst hx
    by_cases hy : y = 0
    · subst hy; simp [cmp_Or_int.l0, rd, wrap64]
    · simp [cmp_Or_int.l0, rd, wrap64, hy]
  · simp [cmp_Or_int.l0, rd, hx]
def ordB (a0 a1 b0 b1 : Int) : Int := if cmpI a0 b0 = 0 then cmpI a1 b1 else cmpI a0 b0
theorem order_eq (a0 a1 b0 b1 : Int) (k : Nat) : ballot_order.f (k + 3) a0 a1 b0 b1 = some (ordB a0 a1 b0 b1) := by
  unfold ballot_order.f ordB
  rw [cmp_eq, cmp_eq]
  simp only [Option.bind_some]
  rw [or_eq]
  rfl
/-- is one ballot less than another one? -/
def lessB (a0 a1 b0 b1 : Int) : Bool := decide (a0 < b0 ∨ (a0 = b0 ∧ a1 < b1))
theorem lessB_iff (a0 a1 b0 b1 : Int) : lessB a0 a1 b0 b1 = true ↔ (a0 < b0 ∨ (a0 = b0 ∧ a1 < b1)) := by unfold lessB; rw [decide_eq_true_iff]
theorem lessB_not (a0 a1 b0 b1 : Int) : lessB a0 a1 b0 b1 = false ↔ ¬ (a0 < b0 ∨ (a0 = b0 ∧ a1 < b1)) := by unfold lessB; rw [decide_eq_false_iff_not]
theorem ordB_lt (a0 a1 b0 b1 : Int) : decide (ordB a0 a1 b0 b1 < 0) = lessB a0 a1 b0 b1 := by
  unfold ordB cmpI lessB
  rw [decide_eq_decide]
  by_cases h1 : a0 < b0
  · simp [h1]
  · by_cases h2 : b0 < a0
    · simp [h1, h2]; omega
    · have : a0 = b0 := by omega
      subst this
      by_cases h3 : a1 < b1
      · simp [h3]
      · by_cases h4 : b1 < a1 <;> simp [h3, h4]
theorem less_eq (a0 a1 b0 b1 : Int) (k : Nat) : ballot_Less.f (k + 3) a0 a1 b0 b1 = some (lessB a0 a1 b0 b1) := by
  unfold ballot_Less.f
  rw [order_eq, Option.bind_some, ordB_lt]
/-- the next ballot of a node, and an error -/
def nextB (n d m : Int) : Int × Int × Int :=
  if (¬ (n = 0 ∧ d = 0) ∧ okB n d = false) ∨ m < 1 ∨ 64 < m then (0, 0, 2)
  else if lessB n d (mx n 1) m then (mx n 1, m, 0)
  else if mx n 1 = 2147483647 then (0, 0, 5) else (mx n 1 + 1, m, 0)
theorem next_j0 (n d m : Int) (k : Nat) (h : (n = 0 ∧ d = 0) ∨ okB n d = true) (hm : 1 ≤ m ∧ m ≤ 64) : ballot_Next.j0 (k + 4) false n d (mx n 1) m = some (nextB n d m) := by
  have hn : 1 ≤ mx n 1 ∧ mx n 1 ≤ 2147483647 := by
    unfold mx
    rcases h with ⟨rfl, rfl⟩ | h
    · simp
    · rw [okB_iff] at h; split <;> omega
  unfold nextB
  rw [if_neg (by
    intro hc
    rcases hc with ⟨h1, h2⟩ | h1 | h1
    · rcases h with h | h
      · exact h1 h
      · rw [h] at h2; exact absurd h2 (by simp)
    · omega
    · omega)]
  simp only [ballot_Next.j0, less_eq, check_eq, Option.bind_some]
  have w1 : wrap64 (mx n 1 + 1) = mx n 1 + 1 := by unfold wrap64; omega
  have o1 : okB (mx n 1) m = true := by rw [okB_iff]; omega
  rw [w1]
  unfold chkB
  cases hl : lessB n d (mx n 1) m
  · by_cases h5 : mx n 1 = 2147483647
    · have o2 : okB (mx n 1 + 1) m = false := by rw [okB_not]; omega
      rw [h5] at o2
      simp [h5]
      exact o2
    · have o2 : okB (mx n 1 + 1) m = true := by rw [okB_iff]; omega
      simp [o2, h5]
  · simp [o1]
theorem next_eq (n d m : Int) (k : Nat) : ballot_Next.f (k + 4) n d m = some (nextB n d m) := by
  have bad : ∀ (k : Nat) (o : Int), ballot_Next.j0 (k + 1) true n d o m = some (0, 0, 2) := by intro k o; simp [ballot_Next.j0]
  unfold ballot_Next.f
  by_cases hz : n = 0 ∧ d = 0
  · rw [if_neg (by simp [hz.1, hz.2])]
    by_cases h1 : m < 1
    · rw [if_pos h1, bad]; unfold nextB; rw [if_pos (Or.inr (Or.inl h1))]
    · rw [if_neg h1]
      by_cases h2 : m > 64
      · rw [decide_eq_true h2, bad]; unfold nextB; rw [if_pos (Or.inr (Or.inr h2))]
      · rw [decide_eq_false h2]; exact next_j0 n d m k (.inl hz) (by omega)
  · rw [if_pos (by
      rw [Bool.or_eq_true, Bool.not_eq_true', Bool.not_eq_true', beq_eq_false_iff_ne, beq_eq_false_iff_ne]
      by_cases h : n = 0
      · exact .inr (fun h2 => hz ⟨h, h2⟩)
      · exact .inl h), check_eq, Option.bind_some]
    unfold chkB
    cases hc : okB n d
    · rw [if_neg (by simp), bad]; unfold nextB; rw [if_pos (Or.inl ⟨hz, hc⟩)]
    · rw [if_pos (by simp)]
      by_cases h1 : m < 1
      · rw [if_pos h1, bad]; unfold nextB; rw [if_pos (Or.inr (Or.inl h1))]
      · rw [if_neg h1]
        by_cases h2 : m > 64
        · rw [decide_eq_true h2, bad]; unfold nextB; rw [if_pos (Or.inr (Or.inr h2))]
        · rw [decide_eq_false h2]; exact next_j0 n d m k (.inr hc) (by omega)
theorem awake_eq (k : Nat) : chartularylaw19_awake.f (k + 4) = some true := by
  unfold chartularylaw19_awake.f chartularylaw19_of.f chartularylaw19_next.f
  simp only [next_eq, less_eq, Option.bind_some]
  rfl
/-- the greatest of a row, from one on -/
def best (v : S23) : List S23 → S23
  | [] => v
  | x :: t => best (if lessB v.f0 v.f1 x.f0 x.f1 then x else v) t
theorem rdN (l : List S23) (i : Nat) : rd_T23 l (i : Int) = l.getD i z23 := by unfold rd_T23; rw [Int.toNat_natCast]
theorem wrapN (i : Nat) (h : i < 1000) : wrap64 ((i : Int) + 1) = ((i + 1 : Nat) : Int) := by unfold wrap64; omega
theorem drop_at {l : List S23} {i : Nat} (h : i < l.length) : l.drop i = l.getD i z23 :: l.drop (i + 1) := by
  rw [List.drop_eq_getElem_cons h, List.getD_eq_getElem?_getD, List.getElem?_eq_getElem h]; rfl
theorem greatest_l0 (l : List S23) (hs : l.length < 900) : ∀ (n i k : Nat) (v : S23), n = l.length - i → i ≤ l.length → n + 5 ≤ k →
    api_Ballot.l0 k l (l.length : Int) (i : Int) v.f0 v.f1 = some ((best v (l.drop i)).f0, (best v (l.drop i)).f1) := by
  intro n
  induction n with
  | zero =>
    intro i k v hn hi hk
    obtain ⟨k, rfl⟩ : ∃ k', k = k' + 1 := ⟨k - 1, by omega⟩
    rw [List.drop_of_length_le (by omega)]
    unfold api_Ballot.l0
    rw [if_neg (by omega)]
    rfl
  | succ n ih =>
    intro i k v hn hi hk
    obtain ⟨k, rfl⟩ : ∃ k', k = k' + 3 + 1 := ⟨k - 4, by omega⟩
    rw [drop_at (by omega)]
    unfold api_Ballot.l0
    rw [if_pos (by omega), if_pos (by omega), if_pos (by omega), rdN, order_eq, Option.bind_some, wrapN i (by omega)]
    have e := ordB_lt v.f0 v.f1 (l.getD i z23).f0 (l.getD i z23).f1
    unfold best
    by_cases h : ordB v.f0 v.f1 (l.getD i z23).f0 (l.getD i z23).f1 < 0
    · rw [decide_eq_true h] at e
      rw [if_pos h, ← e, if_pos rfl]
      exact ih (i + 1) (k + 3) (l.getD i z23) (by omega) (by omega) (by omega)
    · rw [decide_eq_false h] at e
      rw [if_neg h, ← e, if_neg (by simp)]
      exact ih (i + 1) (k + 3) v (by omega) (by omega) (by omega)
theorem max_eq (l : List S23) (hs : l.length ≤ 60) (k : Nat) (hk : 100 ≤ k) : ballot_Max.f k l = some ((best z23 l).f0, (best z23 l).f1) := by
  unfold ballot_Max.f api_Ballot.f
  have := greatest_l0 l (by omega) l.length 0 k z23 (by omega) (by omega) (by omega)
  rw [List.drop_zero] at this
  rw [show api_Ballot.l0 k l (l.length : Int) 0 0 0 = _ from this]
  rfl
theorem best_in (l : List S23) : ∀ v : S23, best v l = v ∨ best v l ∈ l := by
  induction l with
  | nil => intro v; exact .inl rfl
  | cons x t ih =>
    intro v
    unfold best
    rcases ih (if lessB v.f0 v.f1 x.f0 x.f1 then x else v) with h | h
    · rw [h]
      split
      · exact .inr List.mem_cons_self
      · exact .inl rfl
    · exact .inr (List.mem_cons_of_mem _ h)
theorem best_top (l : List S23) : ∀ v : S23, lessB (best v l).f0 (best v l).f1 v.f0 v.f1 = false ∧ ∀ x ∈ l, lessB (best v l).f0 (best v l).f1 x.f0 x.f1 = false := by
  induction l with
  | nil => intro v; exact ⟨by rw [lessB_not]; unfold best; omega, fun x hx => absurd hx (by simp)⟩
  | cons y t ih =>
    intro v
    unfold best
    obtain ⟨h1, h2⟩ := ih (if lessB v.f0 v.f1 y.f0 y.f1 then y else v)
    cases hc : lessB v.f0 v.f1 y.f0 y.f1
    · rw [hc] at h1 h2
      simp only [Bool.false_eq_true, if_false] at h1 h2 ⊢
      refine ⟨h1, fun x hx => ?_⟩
      rcases List.mem_cons.1 hx with rfl | hx
      · rw [lessB_not] at hc h1 ⊢; omega
      · exact h2 x hx
    · rw [hc] at h1 h2
      simp only [if_true] at h1 h2 ⊢
      refine ⟨?_, fun x hx => ?_⟩
      · rw [lessB_iff] at hc; rw [lessB_not] at h1 ⊢; omega
      · rcases List.mem_cons.1 hx with rfl | hx
        · exact h1
        · exact h2 x hx
end Go.Proofs.Ytheafmjdncmpoaa
