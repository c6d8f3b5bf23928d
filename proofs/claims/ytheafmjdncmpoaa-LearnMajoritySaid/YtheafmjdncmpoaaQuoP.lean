/-
  Quorum: plain laws of a quorum of the first nodes that meet themselves.
-/
import Derived.Test.YtheafmjdncmpoaaQuoE
namespace Go.Proofs.Ytheafmjdncmpoaa
set_option linter.unusedSimpArgs false
set_option linter.unusedVariables false
open Go.RowKit Go.Proofs.YtheafmjdncmpoaaW.PrintWords Go.Proofs.YtheafmjdncmpoaaW.PrintMore

/-- the numbers from 1 on, so many -/
def firstL : Nat → List Int
  | 0 => []
  | n + 1 => firstL n ++ [(n : Int) + 1]
theorem firstL_len : ∀ n, (firstL n).length = n
  | 0 => rfl
  | n + 1 => by simp [firstL, firstL_len n]
theorem firstL_get : ∀ (n i : Nat), i < n → (firstL n).getD i 0 = (i : Int) + 1
  | n + 1, i, h => by
    unfold firstL
    by_cases hi : i < n
    · have := firstL_get n i hi
      rw [List.getD_eq_getElem?_getD, List.getElem?_append_left (by rw [firstL_len]; exact hi), ← List.getD_eq_getElem?_getD]
      exact this
    · obtain rfl : i = n := by omega
      rw [List.getD_eq_getElem?_getD, List.getElem?_append_right (by rw [firstL_len]; omega), firstL_len]
      simp
/-- the slots of the first nodes, met by themselves -/
def metS (n : Nat) (who : List Bool) : List Qs := (List.range n).map fun (j : Nat) => ⟨(j : Int) + 1, 0, if who.getD (j + 1) false then some ((j : Int) + 1) else none⟩
theorem metS_len (n : Nat) (who : List Bool) : (metS n who).length = n := by simp [metS]
theorem metS_get {n : Nat} (who : List Bool) {i : Nat} (hi : i < n) : (metS n who).getD i zQ = ⟨(i : Int) + 1, 0, if who.getD (i + 1) false then some ((i : Int) + 1) else none⟩ := by
  rw [List.getD_eq_getElem?_getD]
  unfold metS
  rw [List.getElem?_map, List.getElem?_range hi]
  rfl
theorem slotN_met {n : Nat} (who : List Bool) {k : Nat} (hk : k < n) : slotN (metS n who) ((k : Int) + 1) = some k := by
  unfold slotN
  rw [metS_len]
  refine firstN_some (fun j hj => ?_) hk ?_
  · rw [metS_get _ (by omega)]; simp; omega
  · rw [metS_get _ hk]; simp
theorem byN_met {n : Nat} (who : List Bool) {k : Nat} (h : who.getD (k + 1) false = false) : byN (metS n who) ((k : Int) + 1) = none := by
  unfold byN
  rw [metS_len]
  refine firstN_none fun j hj => ?_
  rw [metS_get _ hj]
  simp only
  by_cases hw : who.getD (j + 1) false = true
  · rw [if_pos hw]
    by_cases e : j = k
    · subst e; rw [h] at hw; cases hw
    · simp; omega
  · rw [if_neg hw]; rfl
theorem metS_set {n : Nat} (who : List Bool) {k : Nat} (hl : who.length = n + 1) (hk : k < n) : (metS n who).set k ⟨(k : Int) + 1, 0, some ((k : Int) + 1)⟩ = metS n (who.set (k + 1) true) := by
  apply List.ext_getElem
  · simp [metS]
  · intro i h1 h2
    have hi : i < n := by simpa [metS] using h2
    rw [List.getElem_set]
    simp only [metS, List.getElem_map, List.getElem_range]
    by_cases e : k = i
    · subst e
      rw [if_pos rfl]
      rw [List.getD_eq_getElem?_getD, List.getElem?_set_self (by omega)]
      simp
    · rw [if_neg e]
      have : (who.set (k + 1) true).getD (i + 1) false = who.getD (i + 1) false := by
        rw [List.getD_eq_getElem?_getD, List.getD_eq_getElem?_getD, List.getElem?_set_ne (by omega)]
      rw [this]
theorem add_met {n : Nat} (who : List Bool) {k : Nat} (hl : who.length = n + 1) (hk : k < n) (hn : n ≤ 64) :
    addI (metS n who) ((k : Int) + 1) ((k : Int) + 1) = if who.getD (k + 1) false then (7, metS n who) else (0, metS n (who.set (k + 1) true)) := by
  unfold addI
  have ho : okNode ((k : Int) + 1) = true := by simp [okNode]; omega
  rw [ho, if_neg (by simp), slotN_met _ hk]
  simp only [metS_get who hk]
  rw [if_neg (by decide)]
  cases hw : who.getD (k + 1) false with
  | true => simp
  | false =>
    rw [byN_met who hw]
    simp only [Bool.false_eq_true, if_false, Option.isSome_none, or_self]
    rw [metS_set who hl hk]
theorem newS_first {n : Nat} (hn : n ≤ 64) : ∀ m, m ≤ n → newS (firstL n) m = some (metS m [])
  | 0, _ => rfl
  | m + 1, h => by
    unfold newS
    rw [newS_first hn m (by omega), firstL_get n m (by omega)]
    simp only [Option.bind_some]
    have ho : okNode ((m : Int) + 1) = true := by simp [okNode]; omega
    have hs : slotN (metS m []) ((m : Int) + 1) = none := by
      unfold slotN
      rw [metS_len]
      exact firstN_none fun j hj => by rw [metS_get _ hj]; simp; omega
    rw [if_pos ⟨ho, hs⟩]
    simp [metS, List.range_succ]
theorem metS_none (n : Nat) : metS n [] = metS n (List.replicate (n + 1) false) := by
  unfold metS
  apply List.map_congr_left
  intro j hj
  have : (List.replicate (n + 1) false).getD (j + 1) false = false := by
    rw [List.getD_eq_getElem?_getD]
    by_cases h : j + 1 < n + 1
    · rw [List.getElem?_replicate, if_pos h]; rfl
    · rw [List.getElem?_replicate, if_neg h]; rfl
  rw [this]
  rfl
theorem newS_firsts {n : Nat} (hn : n ≤ 64) : newS (firstL n) (firstL n).length = some (metS n (List.replicate (n + 1) false)) := by
  rw [firstL_len, ← metS_none]
  exact newS_first hn n (Nat.le_refl _)
theorem countN_congr {P Q : Nat → Bool} : ∀ {n}, (∀ i, i < n → P i = Q i) → countN P n = countN Q n
  | 0, _ => rfl
  | n + 1, h => by
    unfold countN
    rw [countN_congr (fun i hi => h i (by omega)), h n (by omega)]
theorem metN_met (n : Nat) (who : List Bool) : metN (metS n who) = countN (fun i => who.getD (i + 1) false) n := by
  unfold metN
  rw [metS_len]
  refine countN_congr fun i hi => ?_
  rw [metS_get _ hi]
  simp only
  cases who.getD (i + 1) false <;> rfl
theorem countN_true (n : Nat) : countN (fun _ => true) n = n := by
  induction n with
  | zero => rfl
  | succ n ih => unfold countN; rw [ih]; rfl
theorem keptN_met (n : Nat) (who : List Bool) : keptN (metS n who) = n := by
  unfold keptN
  rw [metS_len]
  rw [countN_congr (Q := fun _ => true) fun i hi => by rw [metS_get _ hi]; rfl]
  exact countN_true n
/-- two sets of so many have so many in common -/
theorem countN_both (P Q : Nat → Bool) : ∀ n, countN P n + countN Q n ≤ n + countN (fun i => P i && Q i) n
  | 0 => by simp [countN]
  | n + 1 => by
    have := countN_both P Q n
    unfold countN
    cases P n <;> cases Q n <;> simp <;> omega
end Go.Proofs.Ytheafmjdncmpoaa
