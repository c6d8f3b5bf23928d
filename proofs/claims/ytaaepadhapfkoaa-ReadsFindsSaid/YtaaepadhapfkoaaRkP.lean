/-
  Rank: an id's order, as a plain list.
-/
import Derived.Test.YtaaepadhapfkoaaRkA
import Derived.Test.YtaaepadhapfkoaaSha
namespace Go.Proofs.Ytaaepadhapfkoaa
set_option linter.unusedSimpArgs false
set_option linter.unusedVariables false

/-- a node's weight -/
def wOf (id : List Nat) (n : Nat) : Nat := num ((Sha.sum (id ++ [n])).take 8)
/-- the weighed nodes as they are laid -/
def rawW (id : List Nat) (n : Nat) : List (Nat × Nat) := (List.range n).map fun i => (i + 1, wOf id (i + 1))
def leW (x y : Nat × Nat) : Bool := decide (y.2 < x.2 ∨ (x.2 = y.2 ∧ x.1 ≤ y.1))
def ordW (id : List Nat) (n : Nat) : List (Nat × Nat) := (rawW id n).mergeSort leW
/-- the order -/
def ordL (id : List Nat) (n : Nat) : List Nat := (ordW id n).map (·.1)
theorem cfW_lt (x y : Nat × Nat) : cfW x y < 0 ↔ (y.2 < x.2 ∨ (x.2 = y.2 ∧ x.1 < y.1)) := by
  unfold cfW cmpN
  constructor
  · intro h
    repeat' split at h
    all_goals omega
  · intro h
    repeat' split
    all_goals omega
theorem leW_not (x y : Nat × Nat) : (!decide (cfW y x < 0)) = leW x y := by
  unfold leW
  rw [← decide_not]
  apply decide_eq_decide.2
  rw [cfW_lt]
  omega
theorem leW_trans (a b c : Nat × Nat) (h1 : leW a b = true) (h2 : leW b c = true) : leW a c = true := by
  unfold leW at *
  simp only [decide_eq_true_eq] at *
  omega
theorem leW_total (a b : Nat × Nat) : (leW a b || leW b a) = true := by
  unfold leW
  simp only [Bool.or_eq_true, decide_eq_true_eq]
  omega
theorem leW_anti (a b : Nat × Nat) (h1 : leW a b = true) (h2 : leW b a = true) : a = b := by
  unfold leW at *
  simp only [decide_eq_true_eq] at *
  exact Prod.ext (by omega) (by omega)
theorem rawW_len (id : List Nat) (n : Nat) : (rawW id n).length = n := by simp [rawW]
theorem ordW_perm (id : List Nat) (n : Nat) : (ordW id n).Perm (rawW id n) := List.mergeSort_perm _ _
theorem ordW_len (id : List Nat) (n : Nat) : (ordW id n).length = n := by rw [(ordW_perm id n).length_eq, rawW_len]
theorem ordL_len (id : List Nat) (n : Nat) : (ordL id n).length = n := by unfold ordL; rw [List.length_map, ordW_len]
theorem rawW_fst (id : List Nat) (n : Nat) : (rawW id n).map (·.1) = (List.range n).map (· + 1) := by
  unfold rawW
  rw [List.map_map]
  rfl
theorem ordL_perm (id : List Nat) (n : Nat) : (ordL id n).Perm ((List.range n).map (· + 1)) := by
  have := (ordW_perm id n).map (·.1)
  rwa [rawW_fst] at this
theorem ordL_mem {id : List Nat} {n x : Nat} : x ∈ ordL id n ↔ 1 ≤ x ∧ x ≤ n := by
  rw [(ordL_perm id n).mem_iff, List.mem_map]
  constructor
  · rintro ⟨i, hi, rfl⟩
    have := List.mem_range.1 hi
    omega
  · rintro ⟨h1, h2⟩
    exact ⟨x - 1, List.mem_range.2 (by omega), by omega⟩
theorem ordL_nodup (id : List Nat) (n : Nat) : (ordL id n).Nodup := by
  rw [(ordL_perm id n).nodup_iff]
  refine List.Pairwise.map _ (fun a b h => ?_) List.nodup_range
  omega
theorem rawW_less (id : List Nat) (n : Nat) : (rawW id (n + 1)).filter (fun x => decide (x.1 ≠ n + 1)) = rawW id n := by
  unfold rawW
  rw [List.range_succ, List.map_append, List.filter_append]
  have h1 : (List.map (fun i => (i + 1, wOf id (i + 1))) (List.range n)).filter (fun x => decide (x.1 ≠ n + 1)) = List.map (fun i => (i + 1, wOf id (i + 1))) (List.range n) := by
    rw [List.filter_eq_self]
    intro x hx
    obtain ⟨i, hi, rfl⟩ := List.mem_map.1 hx
    have := List.mem_range.1 hi
    simp only [decide_eq_true_eq]
    omega
  rw [h1]
  simp
/-- with one node more the order is the same but for that one -/
theorem ordW_less (id : List Nat) (n : Nat) : (ordW id (n + 1)).filter (fun x => decide (x.1 ≠ n + 1)) = ordW id n := by
  refine List.Perm.eq_of_pairwise (le := fun x y => leW x y = true) (fun a b _ _ h1 h2 => leW_anti a b h1 h2) ?_ (List.pairwise_mergeSort leW_trans leW_total _) ?_
  · exact (List.pairwise_mergeSort leW_trans leW_total _).filter _
  · refine ((ordW_perm id (n + 1)).filter _).trans ?_
    rw [rawW_less]
    exact (ordW_perm id n).symm
theorem ordL_less (id : List Nat) (n : Nat) : (ordL id (n + 1)).filter (fun x => decide (x ≠ n + 1)) = ordL id n := by
  unfold ordL
  rw [List.filter_map]
  exact congrArg _ (ordW_less id n)
end Go.Proofs.Ytaaepadhapfkoaa
