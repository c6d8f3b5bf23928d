/-
  Learn: plain laws: nodes that are heard by one ballot.
-/
import Derived.Test.YtheafmjdncmpoaaLrnA
import Derived.Test.YtheafmjdncmpoaaQuoR
namespace Go.Proofs.Ytheafmjdncmpoaa
set_option linter.unusedSimpArgs false
set_option linter.unusedVariables false
open Go.RowKit Go.Proofs.YtheafmjdncmpoaaW.PrintWords Go.Proofs.YtheafmjdncmpoaaW.PrintMore

/-- of how many nodes was it heard? -/
def cntB (n : Nat) (seen : List Bool) : Nat := countN (fun i => seen.getD (i + 1) false) n
/-- the learner behind those -/
def soonL (n : Nat) (seen : List Bool) (v : Int) (x : List Int) : Lr :=
  ⟨n, fun k => if seen.getD k false then ⟨v, 1, x⟩ else hd0, decide (n / 2 + 1 ≤ cntB n seen), if n / 2 + 1 ≤ cntB n seen then x else []⟩
theorem getD_set_b (l : List Bool) (k j : Nat) (x : Bool) (hk : k < l.length) : (l.set k x).getD j false = if j = k then x else l.getD j false := by
  by_cases e : j = k
  · subst e
    rw [if_pos rfl, List.getD_eq_getElem?_getD, List.getElem?_set_self hk]; rfl
  · rw [if_neg e, List.getD_eq_getElem?_getD, List.getElem?_set_ne (by omega), ← List.getD_eq_getElem?_getD]
theorem countN_step {P P' : Nat → Bool} {i : Nat} (h : ∀ j, j ≠ i → P' j = P j) (h0 : P i = false) (h1 : P' i = true) : ∀ n, i < n → countN P' n = countN P n + 1
  | n + 1, hi => by
    unfold countN
    by_cases e : i = n
    · subst e
      rw [countN_congr (P := P') (Q := P) (n := i) (fun j hj => h j (by omega)), h0, h1]
      simp
    · rw [countN_step h h0 h1 n (by omega), h n (by omega)]
      omega
theorem cntB_set {n : Nat} {seen : List Bool} {k : Nat} (hl : seen.length = n + 1) (h1 : 1 ≤ k) (h2 : k ≤ n) (hs : seen.getD k false = false) : cntB n (seen.set k true) = cntB n seen + 1 := by
  unfold cntB
  refine countN_step (i := k - 1) (fun j hj => ?_) ?_ ?_ n (by omega)
  · rw [getD_set_b _ _ _ _ (by omega), if_neg (by omega)]
  · rw [show k - 1 + 1 = k by omega]; exact hs
  · rw [show k - 1 + 1 = k by omega, getD_set_b _ _ _ _ (by omega), if_pos rfl]
theorem set_seen {seen : List Bool} {k : Nat} (hk : k < seen.length) (h : seen.getD k false = true) : seen.set k true = seen := by
  apply List.ext_getElem
  · simp
  · intro i i1 i2
    rw [List.getElem_set]
    split
    · rename_i e
      subst e
      rw [List.getD_eq_getElem?_getD, List.getElem?_eq_getElem hk] at h
      exact h.symm
    · rfl
theorem bad_zero (n : Nat) (seen : List Bool) (v : Int) (x : List Int) (hv : 1 ≤ v) : countN (badI (soonL n seen v x) v 1 x) (soonL n seen v x).nodes = 0 := by
  have h0 : ∀ n, countN (fun _ => false) n = 0 := fun n => by induction n with
    | zero => rfl
    | succ n ih => unfold countN; rw [ih]; rfl
  rw [countN_congr (Q := fun _ => false) (fun i _ => ?_)]
  · exact h0 _
  · unfold badI eqH soonL
    simp only
    split
    · rw [sameB_refl]; simp
    · have : (hd0.n == v) = false := by simp [hd0]; omega
      rw [this]; rfl
theorem good_cnt (n : Nat) (seen : List Bool) (v : Int) (x : List Int) (hv : 1 ≤ v) (L : Lr) (hL : ∀ k, L.of k = if seen.getD k false then ⟨v, 1, x⟩ else hd0) : countN (goodI L v 1) n = cntB n seen := by
  unfold cntB
  refine countN_congr fun i _ => ?_
  unfold goodI eqH
  rw [hL]
  split
  · rename_i h; rw [h]; simp
  · rename_i h
    have : (hd0.n == v) = false := by simp [hd0]; omega
    rw [this]
    simp only [Bool.false_and]
    cases hs : seen.getD (i + 1) false with
    | false => rfl
    | true => exact absurd hs h
theorem hear_soon {n : Nat} {seen : List Bool} {k : Nat} {v : Int} {x : List Int} (hl : seen.length = n + 1) (hn : n ≤ 64) (h1 : 1 ≤ k) (h2 : k ≤ n) (hv : 1 ≤ v ∧ v ≤ 1000) (hx : x.length ≤ 4000) :
    hearI (soonL n seen v x) k v 1 x = ((!seen.getD k false && decide (cntB n (seen.set k true) = n / 2 + 1), 0), soonL n (seen.set k true) v x) := by
  have hnod : (soonL n seen v x).nodes = n := rfl
  have hc : checkB v 1 = true := by unfold checkB; simp; omega
  unfold hearI
  rw [if_neg (by rw [hnod, hc]; simp; omega), if_neg (by rw [bad_zero n seen v x hv.1]; omega), Int.toNat_natCast]
  cases hs : seen.getD k false with
  | true =>
    have hof : (soonL n seen v x).of k = ⟨v, 1, x⟩ := by unfold soonL; simp only; rw [if_pos hs]
    rw [if_pos (by rw [hof]; unfold lessB; simp), set_seen (by omega) hs]
    simp
  | false =>
    have hof : (soonL n seen v x).of k = hd0 := by unfold soonL; simp only; rw [if_neg (by rw [hs]; simp)]
    rw [if_neg (by rw [hof]; unfold lessB hd0; simp; omega)]
    have hset : ∀ j, ((soonL n seen v x).set k ⟨v, 1, x⟩).of j = if (seen.set k true).getD j false then ⟨v, 1, x⟩ else hd0 := fun j => by
      unfold Lr.set soonL
      simp only
      rw [getD_set_b _ _ _ _ (by omega)]
      by_cases e : j = k
      · rw [if_pos e, if_pos e, if_pos rfl]
      · rw [if_neg e, if_neg e]
    rw [hnod, good_cnt n (seen.set k true) v x hv.1 _ hset]
    have hcnt := cntB_set hl h1 h2 hs
    have hfun : ((soonL n seen v x).set k ⟨v, 1, x⟩).of = (soonL n (seen.set k true) v x).of := funext hset
    by_cases hm : cntB n (seen.set k true) < n / 2 + 1
    · rw [if_pos hm]
      have e1 : (soonL n seen v x).set k ⟨v, 1, x⟩ = soonL n (seen.set k true) v x := by
        have : soonL n (seen.set k true) v x = ⟨n, (soonL n (seen.set k true) v x).of, false, []⟩ := by
          unfold soonL; simp only [Lr.mk.injEq, true_and]
          exact ⟨by simp; omega, by rw [if_neg (by omega)]⟩
        rw [this, ← hfun]
        unfold Lr.set soonL
        simp only [Lr.mk.injEq, true_and]
        exact ⟨by simp; omega, by rw [if_neg (by omega)]⟩
      rw [e1]
      congr 2
      simp
      omega
    · rw [if_neg hm]
      unfold decideI
      by_cases hd : n / 2 + 1 ≤ cntB n seen
      · have hdec : ((soonL n seen v x).set k ⟨v, 1, x⟩).dec = true := by unfold Lr.set soonL; simpa using hd
        rw [hdec]
        simp only [if_true]
        have e1 : (soonL n seen v x).set k ⟨v, 1, x⟩ = soonL n (seen.set k true) v x := by
          have : soonL n (seen.set k true) v x = ⟨n, (soonL n (seen.set k true) v x).of, true, x⟩ := by
            unfold soonL; simp only [Lr.mk.injEq, true_and]
            exact ⟨by simp; omega, by rw [if_pos (by omega)]⟩
          rw [this, ← hfun]
          unfold Lr.set soonL
          simp only [Lr.mk.injEq, true_and]
          exact ⟨by simp; omega, by rw [if_pos (by omega)]⟩
        rw [e1]
        congr 2
        simp
        omega
      · have hdec : ((soonL n seen v x).set k ⟨v, 1, x⟩).dec = false := by unfold Lr.set soonL; simp; omega
        rw [hdec]
        simp only [Bool.false_eq_true, if_false]
        have e1 : { (soonL n seen v x).set k ⟨v, 1, x⟩ with dec := true, data := x } = soonL n (seen.set k true) v x := by
          have : soonL n (seen.set k true) v x = ⟨n, (soonL n (seen.set k true) v x).of, true, x⟩ := by
            unfold soonL; simp only [Lr.mk.injEq, true_and]
            exact ⟨by simp; omega, by rw [if_pos (by omega)]⟩
          rw [this, ← hfun]
          rfl
        rw [e1]
        congr 2
        simp
        omega
end Go.Proofs.Ytheafmjdncmpoaa
