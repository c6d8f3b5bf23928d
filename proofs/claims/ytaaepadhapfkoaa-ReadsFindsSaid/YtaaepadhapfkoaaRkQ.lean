/-
  Rank: what the spots are: plain laws.
-/
import Derived.Test.YtaaepadhapfkoaaRkK
namespace Go.Proofs.Ytaaepadhapfkoaa
set_option linter.unusedSimpArgs false
set_option linter.unusedVariables false

theorem placeL_mem {live : List Int} : ∀ (hs os : List Int) (p : Int × Int), p ∈ placeL live hs os → p.2 ∈ hs ∧ ((p.1 = p.2 ∧ p.2 ∈ live) ∨ (¬ p.2 ∈ live ∧ p.1 ∈ os))
  | [], os, p, h => by rw [placeL.eq_def] at h; cases h
  | h :: hs, os, p, hp => by
    by_cases hin : h ∈ live
    · rw [placeL_in hin] at hp
      rcases List.mem_cons.1 hp with rfl | hp
      · exact ⟨List.mem_cons_self .., .inl ⟨rfl, hin⟩⟩
      · obtain ⟨h1, h2⟩ := placeL_mem hs os p hp
        exact ⟨List.mem_cons_of_mem _ h1, h2⟩
    · cases os with
      | nil =>
        rw [placeL_nil hin] at hp
        obtain ⟨h1, h2⟩ := placeL_mem hs [] p hp
        exact ⟨List.mem_cons_of_mem _ h1, h2⟩
      | cons o os =>
        rw [placeL_cons hin] at hp
        rcases List.mem_cons.1 hp with rfl | hp
        · exact ⟨List.mem_cons_self .., .inr ⟨hin, List.mem_cons_self ..⟩⟩
        · obtain ⟨h1, h2⟩ := placeL_mem hs os p hp
          refine ⟨List.mem_cons_of_mem _ h1, ?_⟩
          rcases h2 with h2 | ⟨h2, h3⟩
          · exact .inl h2
          · exact .inr ⟨h2, List.mem_cons_of_mem _ h3⟩
theorem placeL_apart {live : List Int} : ∀ (hs os : List Int), hs.Nodup → os.Nodup → (∀ x ∈ hs, ¬ x ∈ os) → (placeL live hs os).Pairwise fun p q => p.1 ≠ q.1 ∧ p.2 ≠ q.2
  | [], os, _, _, _ => by rw [placeL.eq_def]; exact .nil
  | h :: hs, os, hn, on, hd => by
    have hn2 := (List.nodup_cons.1 hn)
    by_cases hin : h ∈ live
    · rw [placeL_in hin]
      refine List.pairwise_cons.2 ⟨fun p hp => ?_, placeL_apart hs os hn2.2 on (fun x hx => hd x (List.mem_cons_of_mem _ hx))⟩
      obtain ⟨h1, h2⟩ := placeL_mem hs os p hp
      have h3 : h ≠ p.2 := fun e => hn2.1 (e ▸ h1)
      refine ⟨?_, h3⟩
      rcases h2 with ⟨h2, _⟩ | ⟨_, h2⟩
      · rw [h2]; exact h3
      · intro e
        exact hd h (List.mem_cons_self ..) (by show h ∈ os; rw [show h = p.1 from e]; exact h2)
    · cases os with
      | nil =>
        rw [placeL_nil hin]
        exact placeL_apart hs [] hn2.2 on (fun x hx => hd x (List.mem_cons_of_mem _ hx))
      | cons o os =>
        rw [placeL_cons hin]
        have on2 := List.nodup_cons.1 on
        refine List.pairwise_cons.2 ⟨fun p hp => ?_, placeL_apart hs os hn2.2 on2.2 (fun x hx hy => hd x (List.mem_cons_of_mem _ hx) (List.mem_cons_of_mem _ hy))⟩
        obtain ⟨h1, h2⟩ := placeL_mem hs os p hp
        refine ⟨?_, fun e => hn2.1 (by rw [show h = p.2 from e]; exact h1)⟩
        rcases h2 with ⟨h2, _⟩ | ⟨_, h2⟩
        · intro e
          exact hd p.2 (List.mem_cons_of_mem _ h1) (by rw [← h2, ← show o = p.1 from e]; exact List.mem_cons_self ..)
        · intro e
          exact on2.1 (by rw [show o = p.1 from e]; exact h2)
theorem placeL_len {live : List Int} : ∀ (hs os : List Int), (placeL live hs os).length = min hs.length ((hs.filter fun x => decide (x ∈ live)).length + os.length)
  | [], os => by rw [placeL.eq_def]; simp
  | h :: hs, os => by
    by_cases hin : h ∈ live
    · rw [placeL_in hin, List.length_cons, placeL_len hs os, List.filter_cons_of_pos (by simpa using hin), List.length_cons, List.length_cons]
      omega
    · rw [List.filter_cons_of_neg (by simpa using hin)]
      cases os with
      | nil =>
        rw [placeL_nil hin, placeL_len hs [], List.length_cons]
        have := List.length_filter_le (fun x => decide (x ∈ live)) hs
        simp only [List.length_nil, Nat.add_zero]
        omega
      | cons o os =>
        rw [placeL_cons hin, List.length_cons, placeL_len hs os, List.length_cons, List.length_cons]
        omega
theorem ordI_perm (id : List Nat) (n : Nat) : (ordI id n).Perm ((List.range n).map fun i => ((i + 1 : Nat) : Int)) := by
  have := (ordL_perm id n).map (fun x : Nat => (x : Int))
  rw [List.map_map] at this
  exact this
theorem ordI_nodup (id : List Nat) (n : Nat) : (ordI id n).Nodup := by
  unfold ordI
  refine List.Pairwise.map _ (fun a b h => ?_) (ordL_nodup id n)
  omega
theorem ordI_mem {id : List Nat} {n : Nat} {x : Int} : x ∈ ordI id n ↔ 1 ≤ x ∧ x ≤ n := by
  unfold ordI
  rw [List.mem_map]
  constructor
  · rintro ⟨y, hy, rfl⟩
    have := ordL_mem.1 hy
    omega
  · rintro ⟨h1, h2⟩
    exact ⟨x.toNat, ordL_mem.2 (by omega), by omega⟩
/-- how many of the first k are live -/
def manyL (live : List Int) (k : Nat) : Nat := ((List.range k).filter fun i => decide (((i + 1 : Nat) : Int) ∈ live)).length
theorem filter_one (p : Nat → Bool) (k : Nat) : ([k].filter p).length = if p k = true then 1 else 0 := by
  cases h : p k <;> simp [h]
theorem manyL_step (live : List Int) (k : Nat) : manyL live (k + 1) = manyL live k + (if ((k + 1 : Nat) : Int) ∈ live then 1 else 0) := by
  unfold manyL
  rw [List.range_succ, List.filter_append, List.length_append]
  congr 1
  refine (filter_one _ k).trans ?_
  simp only [decide_eq_true_eq]
theorem manyL_ord (id : List Nat) (live : List Int) (n : Nat) : ((ordI id n).filter fun x => decide (x ∈ live)).length = manyL live n := by
  have h := ((ordI_perm id n).filter fun x => decide (x ∈ live)).length_eq
  rw [h, List.filter_map, List.length_map]
  rfl
theorem placeS_len (id : List Nat) (n c : Nat) (live : List Int) (hc : c ≤ n) : (placeS id n c live).length = min c (manyL live n) := by
  unfold placeS liveOf
  rw [placeL_len, ← manyL_ord id live n, List.length_take, ordI_len, ← List.length_append, ← List.filter_append, List.take_append_drop, Nat.min_eq_left hc]
theorem placeS_mem {id : List Nat} {n c : Nat} {live : List Int} {p : Int × Int} (h : p ∈ placeS id n c live) :
    (1 ≤ p.1 ∧ p.1 ≤ n) ∧ (1 ≤ p.2 ∧ p.2 ≤ n) ∧ p.1 ∈ live ∧ p.2 ∈ (ordI id n).take c ∧ (p.1 ≠ p.2 → ¬ p.2 ∈ live ∧ ¬ p.1 ∈ (ordI id n).take c) := by
  obtain ⟨h1, h2⟩ := placeL_mem _ _ p h
  have h3 := ordI_mem.1 (List.mem_of_mem_take h1)
  rcases h2 with ⟨h2, h4⟩ | ⟨h2, h4⟩
  · refine ⟨by rw [h2]; exact h3, h3, by rw [h2]; exact h4, h1, fun e => absurd h2 e⟩
  · have h5 := List.mem_filter.1 h4
    have h6 := List.mem_of_mem_drop h5.1
    refine ⟨ordI_mem.1 h6, h3, of_decide_eq_true h5.2, h1, fun _ => ⟨h2, fun h7 => ?_⟩⟩
    have hn := ordI_nodup id n
    rw [← List.take_append_drop c (ordI id n)] at hn
    exact (List.nodup_append.1 hn).2.2 _ h7 _ h5.1 rfl
theorem placeS_apart (id : List Nat) (n c : Nat) (live : List Int) : (placeS id n c live).Pairwise fun p q => p.1 ≠ q.1 ∧ p.2 ≠ q.2 := by
  have hn := ordI_nodup id n
  rw [← List.take_append_drop c (ordI id n)] at hn
  obtain ⟨h1, h2, h3⟩ := List.nodup_append.1 hn
  exact placeL_apart _ _ h1 (h2.filter _) (fun x hx hy => h3 x hx x (List.mem_filter.1 hy).1 rfl)
end Go.Proofs.Ytaaepadhapfkoaa
