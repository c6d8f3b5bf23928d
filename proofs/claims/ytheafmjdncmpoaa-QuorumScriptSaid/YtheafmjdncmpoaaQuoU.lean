/-
  Quorum: plain laws: how many slots are met, open, lost, call by call; who meets slots are unlike nodes.
-/
import Derived.Test.YtheafmjdncmpoaaQuoP
namespace Go.Proofs.Ytheafmjdncmpoaa
set_option linter.unusedSimpArgs false
set_option linter.unusedVariables false
open Go.RowKit Go.Proofs.YtheafmjdncmpoaaW.PrintWords Go.Proofs.YtheafmjdncmpoaaW.PrintMore

/-- of how many slots something is so -/
def cntS (f : Qs → Bool) (S : List Qs) : Nat := countN (fun i => f (S.getD i zQ)) S.length
def b2n (b : Bool) : Nat := if b then 1 else 0
theorem countN_upd {P P' : Nat → Bool} {i : Nat} (h : ∀ j, j ≠ i → P' j = P j) : ∀ n, i < n → countN P' n + b2n (P i) = countN P n + b2n (P' i)
  | n + 1, hi => by
    unfold countN
    by_cases e : i = n
    · subst e
      rw [countN_congr (P := P') (Q := P) (n := i) (fun j hj => h j (by omega))]
      unfold b2n
      omega
    · have := countN_upd h n (by omega)
      rw [h n (by omega)]
      omega
theorem getD_set_self {S : List Qs} {i : Nat} {x : Qs} (hi : i < S.length) : (S.set i x).getD i zQ = x := by
  rw [List.getD_eq_getElem?_getD, List.getElem?_set_self hi]; rfl
theorem getD_set_ne {S : List Qs} {i j : Nat} {x : Qs} (h : j ≠ i) : (S.set i x).getD j zQ = S.getD j zQ := by
  rw [List.getD_eq_getElem?_getD, List.getD_eq_getElem?_getD, List.getElem?_set_ne (by omega)]
theorem cntS_set (f : Qs → Bool) {S : List Qs} {i : Nat} {x : Qs} (hi : i < S.length) : cntS f (S.set i x) + b2n (f (S.getD i zQ)) = cntS f S + b2n (f x) := by
  unfold cntS
  rw [List.length_set]
  have := countN_upd (P := fun j => f (S.getD j zQ)) (P' := fun j => f ((S.set i x).getD j zQ)) (i := i) (fun j hj => by rw [getD_set_ne hj]) S.length hi
  simp only [getD_set_self hi] at this
  exact this
def lostB (s : Qs) : Bool := s.b == 1
def metB (s : Qs) : Bool := s.y.isSome
def keptB (s : Qs) : Bool := s.b != 1
theorem metN_cnt (S : List Qs) : metN S = cntS metB S := rfl
theorem keptN_cnt (S : List Qs) : keptN S = cntS keptB S := rfl
theorem openL_cnt (S : List Qs) : ∀ k, (openL S k).length = countN (fun i => isOpen (S.getD i zQ)) k
  | 0 => rfl
  | k + 1 => by
    unfold openL countN
    rw [List.length_append, openL_cnt S k]
    split <;> rfl
theorem nodesL_cnt (S : List Qs) : ∀ k, (nodesL S k).length = countN (fun i => metB (S.getD i zQ)) k
  | 0 => rfl
  | k + 1 => by
    unfold nodesL countN metB
    rw [List.length_append, nodesL_cnt S k]
    cases (S.getD k zQ).y <;> rfl
/-- slots that are as they may be -/
structure Inv (n : Nat) (S : List Qs) : Prop where
  len : S.length = n
  st : ∀ i, i < n → ((S.getD i zQ).b = 0 ∨ ((S.getD i zQ).b = 1 ∧ (S.getD i zQ).y = none))
  dis : ∀ i j v, i < n → j < n → i ≠ j → (S.getD i zQ).y = some v → (S.getD j zQ).y ≠ some v
theorem Inv.cases {n : Nat} {S : List Qs} (h : Inv n S) (i : Nat) (hi : i < n) : b2n (metB (S.getD i zQ)) + b2n (isOpen (S.getD i zQ)) + b2n (lostB (S.getD i zQ)) = 1 ∧ b2n (keptB (S.getD i zQ)) = b2n (metB (S.getD i zQ)) + b2n (isOpen (S.getD i zQ)) := by
  have h1 := h.st i hi
  obtain ⟨s, hs⟩ : ∃ s, S.getD i zQ = s := ⟨_, rfl⟩
  rw [hs] at h1 ⊢
  obtain ⟨a, b, y⟩ := s
  simp only at h1
  rcases h1 with rfl | ⟨rfl, rfl⟩
  · cases y <;> exact ⟨rfl, rfl⟩
  · exact ⟨rfl, rfl⟩
theorem sum_of {P Q R T : Nat → Bool} : ∀ n, (∀ i, i < n → b2n (P i) + b2n (Q i) + b2n (R i) = 1 ∧ b2n (T i) = b2n (P i) + b2n (Q i)) → countN P n + countN Q n + countN R n = n ∧ countN T n = countN P n + countN Q n
  | 0, _ => ⟨rfl, rfl⟩
  | n + 1, h => by
    have h1 := sum_of n (fun i hi => h i (by omega))
    have h2 := h n (by omega)
    unfold countN
    unfold b2n at h2
    omega
theorem Inv.sum {n : Nat} {S : List Qs} (h : Inv n S) : cntS metB S + cntS isOpen S + cntS lostB S = n ∧ cntS keptB S = cntS metB S + cntS isOpen S := by
  unfold cntS
  rw [h.len]
  exact sum_of n (fun i hi => h.cases i hi)
/-- what a call does to the slots -/
def StepTo (S S' : List Qs) (r : Int) (m l : Nat) : Prop :=
  (r = 0 ∧ cntS metB S' = cntS metB S + m ∧ cntS lostB S' = cntS lostB S + l) ∨ (r ≠ 0 ∧ S' = S)
theorem Inv.set {n : Nat} {S : List Qs} (h : Inv n S) {i : Nat} (hi : i < n) {x : Qs} (hx : x.b = 0 ∨ (x.b = 1 ∧ x.y = none)) (hd : ∀ j v, j < n → j ≠ i → x.y = some v → (S.getD j zQ).y ≠ some v) : Inv n (S.set i x) := by
  have hl := h.len
  refine ⟨by rw [List.length_set]; exact hl, fun j hj => ?_, fun j k v hj hk hne => ?_⟩
  · by_cases e : j = i
    · subst e; rw [getD_set_self (by omega)]; exact hx
    · rw [getD_set_ne e]; exact h.st j hj
  · by_cases e : j = i
    · subst e
      rw [getD_set_self (by omega), getD_set_ne (by omega)]
      exact hd k v hk (by omega)
    · by_cases e2 : k = i
      · subst e2
        rw [getD_set_self (by omega), getD_set_ne e]
        intro h1 h2
        exact hd j v hj e h2 h1
      · rw [getD_set_ne e, getD_set_ne e2]
        exact h.dis j k v hj hk hne
theorem byN_none {S : List Qs} {v : Int} (h : byN S v = none) : ∀ j, j < S.length → (S.getD j zQ).y ≠ some v := by
  unfold byN firstN at h
  rw [List.find?_eq_none] at h
  intro j hj e
  have := h j (List.mem_range.2 hj)
  rw [e] at this
  simp at this
theorem add_step {n : Nat} {S : List Qs} (h : Inv n S) (s who : Int) : Inv n (addI S s who).2 ∧ StepTo S (addI S s who).2 (addI S s who).1 1 0 := by
  have hl := h.len
  unfold addI
  by_cases ho : okNode who = false
  · rw [if_pos ho]; exact ⟨h, .inr ⟨by simp, rfl⟩⟩
  · rw [if_neg ho]
    cases hs : slotN S s with
    | none => exact ⟨h, .inr ⟨by simp, rfl⟩⟩
    | some i =>
      have hi := (firstN_lt hs).1
      simp only
      by_cases hb : (S.getD i zQ).b = 1
      · rw [if_pos hb]; exact ⟨h, .inr ⟨by simp, rfl⟩⟩
      · rw [if_neg hb]
        by_cases hy : (S.getD i zQ).y.isSome = true ∨ (byN S who).isSome = true
        · rw [if_pos hy]; exact ⟨h, .inr ⟨by simp, rfl⟩⟩
        · rw [if_neg hy]
          have hy1 : (S.getD i zQ).y = none := by
            cases e : (S.getD i zQ).y with
            | none => rfl
            | some v => exact absurd (.inl (by rw [e]; rfl)) hy
          have hy2 : byN S who = none := by
            cases e : byN S who with
            | none => rfl
            | some v => exact absurd (.inr (by rw [e]; rfl)) hy
          have hb0 : (S.getD i zQ).b = 0 := by
            rcases h.st i (by omega) with e | e
            · exact e
            · exact absurd e.1 hb
          refine ⟨h.set (by omega) (.inl hb0) (fun j v hj hne e => ?_), .inl ⟨rfl, ?_, ?_⟩⟩
          · have e' : who = v := by simpa using e
            subst e'
            exact byN_none hy2 j (by omega)
          · have := cntS_set metB (x := { S.getD i zQ with y := some who }) hi
            simp only [metB, hy1] at this ⊢
            simpa [b2n] using this
          · have := cntS_set lostB (x := { S.getD i zQ with y := some who }) hi
            simp only [lostB] at this ⊢
            simpa [b2n] using this
theorem lose_step {n : Nat} {S : List Qs} (h : Inv n S) (s : Int) : Inv n (loseI S s).2 ∧ StepTo S (loseI S s).2 (loseI S s).1 0 1 := by
  have hl := h.len
  unfold loseI
  cases hs : slotN S s with
  | none => exact ⟨h, .inr ⟨by simp, rfl⟩⟩
  | some i =>
    have hi := (firstN_lt hs).1
    simp only
    by_cases hy : (S.getD i zQ).b = 1 ∨ (S.getD i zQ).y.isSome = true
    · rw [if_pos hy]; exact ⟨h, .inr ⟨by simp, rfl⟩⟩
    · rw [if_neg hy]
      have hy1 : (S.getD i zQ).y = none := by
        cases e : (S.getD i zQ).y with
        | none => rfl
        | some v => exact absurd (.inr (by rw [e]; rfl)) hy
      have hb0 : (S.getD i zQ).b = 0 := by
        rcases h.st i (by omega) with e | e
        · exact e
        · exact absurd (.inl e.1) hy
      refine ⟨h.set (by omega) (.inr ⟨rfl, hy1⟩) (fun j v hj hne e => ?_), .inl ⟨rfl, ?_, ?_⟩⟩
      · simp only at e; rw [hy1] at e; cases e
      · have := cntS_set metB (x := { S.getD i zQ with b := 1 }) hi
        simp only [metB] at this ⊢
        simpa [b2n] using this
      · have := cntS_set lostB (x := { S.getD i zQ with b := 1 }) hi
        simp only [lostB, hb0] at this ⊢
        simpa [b2n] using this
theorem nodesL_mem (S : List Qs) (v : Int) : ∀ k, v ∈ nodesL S k → ∃ i, i < k ∧ (S.getD i zQ).y = some v
  | 0, h => by simp [nodesL] at h
  | k + 1, h => by
    unfold nodesL at h
    rcases List.mem_append.1 h with h | h
    · obtain ⟨i, hi, e⟩ := nodesL_mem S v k h
      exact ⟨i, by omega, e⟩
    · exact ⟨k, by omega, by simpa using h⟩
theorem nodesL_nodup {n : Nat} {S : List Qs} (h : Inv n S) : ∀ k, k ≤ n → (nodesL S k).Nodup
  | 0, _ => by simp [nodesL]
  | k + 1, hk => by
    unfold nodesL
    rw [List.nodup_append]
    refine ⟨nodesL_nodup h k (by omega), by cases (S.getD k zQ).y <;> simp, ?_⟩
    intro a ha b hb e
    subst e
    obtain ⟨i, hi, e⟩ := nodesL_mem S a k ha
    exact h.dis i k a (by omega) (by omega) (by omega) e (by simpa using hb)
theorem nodes_ne {n : Nat} {S : List Qs} (h : Inv n S) {i j : Nat} (hi : i < (nodesL S n).length) (hj : j < i) : (nodesL S n).getD j 0 ≠ (nodesL S n).getD i 0 := by
  have hd := nodesL_nodup h n (Nat.le_refl _)
  rw [List.getD_eq_getElem?_getD, List.getD_eq_getElem?_getD, List.getElem?_eq_getElem (by omega), List.getElem?_eq_getElem hi]
  simp only [Option.getD_some]
  intro e
  have := (List.getElem_inj (h₀ := by omega) (h₁ := hi) hd).1 e
  omega
theorem inv_first {n : Nat} (hn : n ≤ 64) : Inv n (metS n []) := by
  have hg : ∀ i, i < n → (metS n []).getD i zQ = ⟨(i : Int) + 1, 0, none⟩ := fun i hi => by rw [metS_get _ hi]; rfl
  refine ⟨metS_len _ _, fun i hi => .inl (by rw [hg i hi]), fun i j v hi hj hne e => ?_⟩
  rw [hg i hi] at e
  cases e
theorem first_cnt (n : Nat) : cntS metB (metS n []) = 0 ∧ cntS lostB (metS n []) = 0 := by
  unfold cntS
  rw [metS_len]
  have hg : ∀ i, i < n → (metS n []).getD i zQ = ⟨(i : Int) + 1, 0, none⟩ := fun i hi => by rw [metS_get _ hi]; rfl
  have h0 : ∀ n, countN (fun _ => false) n = 0 := fun n => by induction n with
    | zero => rfl
    | succ n ih => unfold countN; rw [ih]; rfl
  constructor
  · rw [countN_congr (Q := fun _ => false) (fun i hi => by rw [hg i hi]; rfl)]; exact h0 n
  · rw [countN_congr (Q := fun _ => false) (fun i hi => by rw [hg i hi]; rfl)]; exact h0 n
end Go.Proofs.Ytheafmjdncmpoaa
