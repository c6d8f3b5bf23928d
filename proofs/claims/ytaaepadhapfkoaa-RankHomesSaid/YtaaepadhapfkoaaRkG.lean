/-
  Rank: all live, the homes are the spots; one gone: plain laws.
-/
import Derived.Test.YtaaepadhapfkoaaRkQ
namespace Go.Proofs.Ytaaepadhapfkoaa
set_option linter.unusedSimpArgs false
set_option linter.unusedVariables false

/-- all nodes, and all but one -/
def allN (n : Nat) : List Int := (List.range n).map fun i => ((i + 1 : Nat) : Int)
def lessN (gone : Int) (n : Nat) : List Int := (allN n).filter fun x => decide (x ≠ gone)
theorem allN_mem {n : Nat} {x : Int} : x ∈ allN n ↔ 1 ≤ x ∧ x ≤ n := by
  unfold allN
  rw [List.mem_map]
  constructor
  · rintro ⟨i, hi, rfl⟩
    have := List.mem_range.1 hi
    omega
  · rintro ⟨h1, h2⟩
    exact ⟨(x - 1).toNat, List.mem_range.2 (by omega), by omega⟩
theorem lessN_mem {gone : Int} {n : Nat} {x : Int} : x ∈ lessN gone n ↔ (1 ≤ x ∧ x ≤ n) ∧ x ≠ gone := by
  unfold lessN
  rw [List.mem_filter, allN_mem, decide_eq_true_iff]
theorem allN_len (n : Nat) : (allN n).length = n := by simp [allN]
theorem lessN_len (gone : Int) (n : Nat) : (lessN gone n).length ≤ n := by
  unfold lessN
  exact Nat.le_trans (List.length_filter_le _ _) (by rw [allN_len]; exact Nat.le_refl _)
theorem allN_step (n : Nat) : allN (n + 1) = allN n ++ [((n + 1 : Nat) : Int)] := by
  unfold allN
  rw [List.range_succ, List.map_append]
  rfl
theorem lessN_step (gone : Int) (n : Nat) : lessN gone (n + 1) = lessN gone n ++ (if ((n + 1 : Nat) : Int) = gone then [] else [((n + 1 : Nat) : Int)]) := by
  unfold lessN
  rw [allN_step, List.filter_append]
  congr 1
  generalize ((n + 1 : Nat) : Int) = x
  by_cases e : x = gone <;> simp [e]
theorem placeL_all {live : List Int} : ∀ (hs os : List Int), (∀ h ∈ hs, h ∈ live) → placeL live hs os = hs.map fun h => (h, h)
  | [], os, _ => by rw [placeL.eq_def]; rfl
  | h :: hs, os, ha => by
    rw [placeL_in (ha h (List.mem_cons_self ..)), placeL_all hs os (fun x hx => ha x (List.mem_cons_of_mem _ hx))]
    rfl
theorem placeS_all (id : List Nat) (n c : Nat) : placeS id n c (allN n) = ((ordI id n).take c).map fun h => (h, h) := by
  unfold placeS
  exact placeL_all _ _ (fun h hh => allN_mem.2 (ordI_mem.1 (List.mem_of_mem_take hh)))
theorem filter_almost {live : List Int} {gone : Int} : ∀ (hs : List Int), hs.Nodup → (∀ h ∈ hs, h ≠ gone → h ∈ live) → hs.length ≤ (hs.filter fun x => decide (x ∈ live)).length + 1
  | [], _, _ => by simp
  | h :: hs, hn, ha => by
    have hn2 := List.nodup_cons.1 hn
    by_cases hin : h ∈ live
    · rw [List.filter_cons_of_pos (by simpa using hin), List.length_cons, List.length_cons]
      have := filter_almost hs hn2.2 (fun x hx => ha x (List.mem_cons_of_mem _ hx))
      omega
    · rw [List.filter_cons_of_neg (by simpa using hin), List.length_cons]
      have hg : h = gone := Classical.byContradiction fun e => hin (ha h (List.mem_cons_self ..) e)
      have : hs.filter (fun x => decide (x ∈ live)) = hs := by
        rw [List.filter_eq_self]
        intro x hx
        exact decide_eq_true (ha x (List.mem_cons_of_mem _ hx) (fun e => hn2.1 (by rw [hg, ← e]; exact hx)))
      rw [this]
      exact Nat.le_refl _
theorem placeL_one {live : List Int} : ∀ (hs os : List Int) (p : Int × Int), p ∈ placeL live hs os → ¬ p.2 ∈ live → (∀ h ∈ hs, ¬ h ∈ live → h = p.2) → hs.Nodup → ∃ os', os = p.1 :: os'
  | [], os, p, h, _, _, _ => by rw [placeL.eq_def] at h; cases h
  | h :: hs, os, p, hp, hd, ha, hn => by
    have hn2 := List.nodup_cons.1 hn
    by_cases hin : h ∈ live
    · rw [placeL_in hin] at hp
      rcases List.mem_cons.1 hp with rfl | hp
      · exact absurd hin hd
      · exact placeL_one hs os p hp hd (fun x hx => ha x (List.mem_cons_of_mem _ hx)) hn2.2
    · have he := ha h (List.mem_cons_self ..) hin
      cases os with
      | nil =>
        rw [placeL_nil hin] at hp
        exact absurd (placeL_mem hs [] p hp).1 (by rw [← he]; exact hn2.1)
      | cons o os =>
        rw [placeL_cons hin] at hp
        rcases List.mem_cons.1 hp with rfl | hp
        · exact ⟨os, rfl⟩
        · exact absurd (placeL_mem hs os p hp).1 (by rw [← he]; exact hn2.1)
theorem homes_less_len (id : List Nat) (n c : Nat) (gone : Int) (hc : c ≤ n) : c ≤ (placeS id n c (lessN gone n)).length + 1 := by
  have hn := ordI_nodup id n
  rw [← List.take_append_drop c (ordI id n)] at hn
  have h := filter_almost (live := lessN gone n) (gone := gone) ((ordI id n).take c) (List.nodup_append.1 hn).1 (fun x hx hne => lessN_mem.2 ⟨ordI_mem.1 (List.mem_of_mem_take hx), hne⟩)
  unfold placeS
  rw [placeL_len]
  rw [List.length_take, ordI_len, Nat.min_eq_left hc] at h ⊢
  omega
theorem homes_less {id : List Nat} {n c : Nat} {gone : Int} (hg : 1 ≤ gone ∧ gone ≤ n) {p : Int × Int} (hp : p ∈ placeS id n c (lessN gone n)) :
    (p.2 ≠ gone → p.1 = p.2) ∧ (p.2 = gone → c < n ∧ p.1 = (ordI id n).getD c 0) := by
  have hn := ordI_nodup id n
  rw [← List.take_append_drop c (ordI id n)] at hn
  obtain ⟨n1, n2, n3⟩ := List.nodup_append.1 hn
  unfold placeS at hp
  obtain ⟨h1, h2⟩ := placeL_mem _ _ p hp
  have h3 := ordI_mem.1 (List.mem_of_mem_take h1)
  constructor
  · intro hne
    rcases h2 with ⟨h2, _⟩ | ⟨h2, _⟩
    · exact h2
    · exact absurd (lessN_mem.2 ⟨h3, hne⟩) h2
  · intro he
    have hd : ¬ p.2 ∈ lessN gone n := fun h => (lessN_mem.1 h).2 he
    have hos : liveOf ((ordI id n).drop c) (lessN gone n) = (ordI id n).drop c := by
      unfold liveOf
      rw [List.filter_eq_self]
      intro x hx
      exact decide_eq_true (lessN_mem.2 ⟨ordI_mem.1 (List.mem_of_mem_drop hx), fun e => n3 p.2 h1 x hx (by rw [he, e])⟩)
    obtain ⟨os', ho⟩ := placeL_one _ _ p hp hd (fun x hx hx2 => by
      rw [he]
      exact Classical.byContradiction fun e => hx2 (lessN_mem.2 ⟨ordI_mem.1 (List.mem_of_mem_take hx), e⟩)) n1
    rw [hos] at ho
    have hl := congrArg List.length ho
    rw [List.length_drop, ordI_len, List.length_cons] at hl
    refine ⟨by omega, ?_⟩
    have := getD_dropI (ordI id n) c 0
    rw [ho, Nat.add_zero] at this
    exact this
theorem home_in {id : List Nat} {n c i : Nat} (hi : i < c) (hc : c ≤ n) : (ordI id n).getD i 0 ∈ (ordI id n).take c := by
  rw [← getD_takeI hi]
  have h : i < ((ordI id n).take c).length := by rw [List.length_take, ordI_len]; omega
  rw [List.getD_eq_getElem?_getD, List.getElem?_eq_getElem h]
  exact List.getElem_mem h
theorem home_out {id : List Nat} {n c i : Nat} (hc : c ≤ i) (hi : i < n) : ¬ (ordI id n).getD i 0 ∈ (ordI id n).take c := by
  have hn := ordI_nodup id n
  rw [← List.take_append_drop c (ordI id n)] at hn
  intro hm
  have h : i - c < ((ordI id n).drop c).length := by rw [List.length_drop, ordI_len]; omega
  refine (List.nodup_append.1 hn).2.2 _ hm _ ?_ rfl
  have e := getD_dropI (ordI id n) c (i - c)
  rw [show c + (i - c) = i by omega] at e
  rw [← e, List.getD_eq_getElem?_getD, List.getElem?_eq_getElem h]
  exact List.getElem_mem h
end Go.Proofs.Ytaaepadhapfkoaa
