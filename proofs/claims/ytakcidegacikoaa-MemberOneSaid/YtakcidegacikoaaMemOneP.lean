/-
  MemberOne, the plain law: whatever the order of the words and whatever is said twice, one word is left. No program in sight.
-/
import Derived.Test.YtakcidegacikoaaMemP
import Derived.Test.YtakcidegacikoaaMMemberOne6
namespace Go.Proofs.Ytakcidegacikoaa.PMemberOne
set_option linter.unusedSimpArgs false
open Go.RowKit Go.Proofs.Ytakcidegacikoaa Go.Proofs.YtakcidegacikoaaW.PrintWords Go.Proofs.YtakcidegacikoaaW.PrintMore

theorem one_check (i s c : Int) : member_Check.f i s c = some (chkM i s c) := check_eq i s c
theorem one_both (a0 a1 a2 b0 b1 b2 : Int) : member_both.f a0 a1 a2 b0 b1 b2 = some (bothM a0 a1 a2 b0 b1 b2) := both_eq a0 a1 a2 b0 b1 b2
theorem one_cmp (x y : Int) : cmp_Compare_int.f x y = some (cmpI x y) := cmp_eq x y
theorem one_or (x y : Int) (k : Nat) : cmp_Or_int.f (k + 3) [x, y] = some (if x = 0 then y else x) := by
  unfold cmp_Or_int.f
  by_cases hx : x = 0
  · subst hx
    by_cases hy : y = 0
    · subst hy; simp [cmp_Or_int.l0, rd, wrap64]
    · simp [cmp_Or_int.l0, rd, wrap64, hy]
  · simp [cmp_Or_int.l0, rd, hx]
theorem one_order (a0 a1 a2 b0 b1 b2 : Int) (k : Nat) : member_order.f (k + 3) a0 a1 a2 b0 b1 b2 = some (ordI a1 a2 b1 b2) := by
  unfold member_order.f ordI
  rw [one_cmp, one_cmp]
  simp only [Option.bind_some]
  rw [one_or]
  rfl
theorem one_merge (a0 a1 a2 b0 b1 b2 : Int) (k : Nat) : member_Merge.f (k + 3) a0 a1 a2 b0 b1 b2 = some (mergeI a0 a1 a2 b0 b1 b2) := by
  unfold member_Merge.f mergeI
  rw [one_both]
  simp only [Option.bind_some]
  cases bothM a0 a1 a2 b0 b1 b2
  · rfl
  · rw [one_order]
    simp only [Option.bind_some, if_true]
    by_cases h : ordI a1 a2 b1 b2 < 0 <;> simp [h]
theorem one_over (a0 a1 a2 b0 b1 b2 : Int) (k : Nat) : member_Over.f (k + 3) a0 a1 a2 b0 b1 b2 = some (overM a0 a1 a2 b0 b1 b2) := by
  unfold member_Over.f overM
  rw [one_both]
  simp only [Option.bind_some]
  cases bothM a0 a1 a2 b0 b1 b2
  · rfl
  · rw [one_order]
    simp
/-- a word that may be, about the node g -/
def Fit (g : Int) (x : S24) : Prop := x.f0 = g ∧ okM x.f0 x.f1 x.f2 = true
/-- the order of two words -/
def ltS (a b : S24) : Prop := a.f2 < b.f2 ∨ (a.f2 = b.f2 ∧ a.f1 < b.f1)
theorem wrapN (i : Nat) (h : i < 1000) : wrap64 ((i : Int) + 1) = ((i + 1 : Nat) : Int) := by unfold wrap64; omega
theorem fit_both {g : Int} {a b : S24} (ha : Fit g a) (hb : Fit g b) : bothM a.f0 a.f1 a.f2 b.f0 b.f1 b.f2 = true := by
  unfold bothM
  rw [ha.2, hb.2, ha.1, hb.1]
  simp
theorem rdN (l : List S24) (i : Nat) : rd_T24 l (i : Int) = l.getD i z24 := by unfold rd_T24; rw [Int.toNat_natCast]
theorem getD_mem {l : List S24} {i : Nat} (h : i < l.length) : l.getD i z24 ∈ l := by
  rw [List.getD_eq_getElem?_getD, List.getElem?_eq_getElem h]; exact List.getElem_mem h
theorem merge_lo {g : Int} {v x : S24} (hv : Fit g v) (hx : Fit g x) (h : ordI v.f1 v.f2 x.f1 x.f2 < 0) (k : Nat) : member_Merge.f (k + 3) v.f0 v.f1 v.f2 x.f0 x.f1 x.f2 = some (x.f0, x.f1, x.f2, 0) := by
  rw [one_merge]; unfold mergeI; rw [fit_both hv hx, if_pos rfl, if_pos h]
theorem merge_hi {g : Int} {v x : S24} (hv : Fit g v) (hx : Fit g x) (h : ¬ ordI v.f1 v.f2 x.f1 x.f2 < 0) (k : Nat) : member_Merge.f (k + 3) v.f0 v.f1 v.f2 x.f0 x.f1 x.f2 = some (v.f0, v.f1, v.f2, 0) := by
  rw [one_merge]; unfold mergeI; rw [fit_both hv hx, if_pos rfl, if_neg h]
theorem merged_l0 (g : Int) (l : List S24) (hs : l.length < 900) (hl : ∀ x ∈ l, Fit g x) : ∀ (n i k : Nat) (v : S24), n = l.length - i → i ≤ l.length → Fit g v → n + 4 ≤ k →
    ∃ m, chartularylaw11_merged.l0 k l (i : Int) v.f0 v.f1 v.f2 = some (m.f0, m.f1, m.f2, true) ∧ Fit g m ∧ (m = v ∨ m ∈ l) ∧ ¬ ltS m v ∧ ∀ j, i ≤ j → j < l.length → ¬ ltS m (l.getD j z24) := by
  intro n
  induction n with
  | zero =>
    intro i k v hn hi hv hk
    obtain ⟨k, rfl⟩ : ∃ k', k = k' + 1 := ⟨k - 1, by omega⟩
    refine ⟨v, ?_, hv, .inl rfl, by unfold ltS; omega, fun j h1 h2 => absurd h2 (by omega)⟩
    unfold chartularylaw11_merged.l0
    rw [if_neg (by omega)]
  | succ n ih =>
    intro i k v hn hi hv hk
    obtain ⟨k, rfl⟩ : ∃ k', k = k' + 3 + 1 := ⟨k - 4, by omega⟩
    have hx : Fit g (l.getD i z24) := hl _ (getD_mem (by omega))
    unfold chartularylaw11_merged.l0
    rw [if_pos (by omega), if_pos (by omega), rdN, wrapN i (by omega)]
    by_cases h : ordI v.f1 v.f2 (l.getD i z24).f1 (l.getD i z24).f2 < 0
    · rw [merge_lo hv hx h k, Option.bind_some, if_pos rfl]
      obtain ⟨m, e, hm, hin, h1, h2⟩ := ih (i + 1) (k + 3) (l.getD i z24) (by omega) (by omega) hx (by omega)
      rw [ordI_lt] at h
      refine ⟨m, e, hm, .inr (by rcases hin with rfl | hin; exact getD_mem (by omega); exact hin), ?_, fun j hj hj2 => ?_⟩
      · unfold ltS at h1 ⊢; omega
      · by_cases hji : j = i
        · subst hji; exact h1
        · exact h2 j (by omega) hj2
    · rw [merge_hi hv hx h k, Option.bind_some, if_pos rfl]
      obtain ⟨m, e, hm, hin, h1, h2⟩ := ih (i + 1) (k + 3) v (by omega) (by omega) hv (by omega)
      rw [ordI_lt] at h
      refine ⟨m, e, hm, hin, h1, fun j hj hj2 => ?_⟩
      by_cases hji : j = i
      · subst hji; unfold ltS at h1 ⊢; omega
      · exact h2 j (by omega) hj2
/-- one word is left of a row of words about one node -/
theorem merged_left (g : Int) (l : List S24) (hs : l.length < 900) (hl : ∀ x ∈ l, Fit g x) (h0 : 0 < l.length) (k : Nat) (hk : l.length + 4 ≤ k) :
    ∃ m, chartularylaw11_merged.f k (rd_T24 l 0).f0 (rd_T24 l 0).f1 (rd_T24 l 0).f2 l = some (m.f0, m.f1, m.f2, true) ∧ Fit g m ∧ m ∈ l ∧ ∀ x ∈ l, ¬ ltS m x := by
  have hx : Fit g (l.getD 0 z24) := hl _ (getD_mem h0)
  obtain ⟨m, e, hm, hin, h1, h2⟩ := merged_l0 g l hs hl l.length 0 k (l.getD 0 z24) (by omega) (by omega) hx (by omega)
  refine ⟨m, ?_, hm, by rcases hin with rfl | hin; exact getD_mem h0; exact hin, fun x hx => ?_⟩
  · unfold chartularylaw11_merged.f
    have := rdN l 0
    simp only [Int.ofNat_zero] at this e
    first | (rw [show rd_T24 l 0 = l.getD 0 z24 from this]; exact e) | exact e
  · obtain ⟨j, hj, rfl⟩ := List.getElem_of_mem hx
    have := h2 j (by omega) hj
    rwa [List.getD_eq_getElem?_getD, List.getElem?_eq_getElem hj] at this
theorem pick_in (x : Int) (n : Nat) (h : 0 < n) (hn : n < 1000) : ∃ t : Nat, t < n ∧ chartularykit_Pick.f x (n : Int) = some (t : Int) := by
  have h1 : x.tmod n < n := Int.tmod_lt_of_pos x (by omega)
  have h2 : -(n : Int) < x.tmod n := by
    have := Int.tmod_lt_of_pos (-x) (show (0 : Int) < n by omega)
    rw [Int.neg_tmod] at this
    omega
  unfold chartularykit_Pick.f
  rw [if_neg (by omega), if_neg (by omega)]
  by_cases h3 : x.tmod n < 0
  · rw [if_pos h3]
    refine ⟨(x.tmod n + n).toNat, by omega, ?_⟩
    rw [Int.toNat_of_nonneg (by omega)]
    unfold wrap64
    congr 1
    omega
  · rw [if_neg h3]
    refine ⟨(x.tmod n).toNat, by omega, ?_⟩
    rw [Int.toNat_of_nonneg (by omega)]
/-- the last loop: no word is over what is left, and one is it -/
theorem one_l3 (m : S24) (x6 : List S24) (hs : x6.length < 900) (hmax : ∀ x ∈ x6, ¬ ltS m x) : ∀ (n i k : Nat) (b : Bool), n = x6.length - i → i ≤ x6.length → n + 4 ≤ k →
    (b = true ∨ ∃ j, i ≤ j ∧ j < x6.length ∧ x6.getD j z24 = m) →
    chartularylaw11_MemberOne.l3 k true x6 true true b (i : Int) m.f0 m.f1 m.f2 m.f0 m.f1 m.f2 = some true := by
  intro n
  induction n with
  | zero =>
    intro i k b hn hi hk hb
    obtain ⟨k, rfl⟩ : ∃ k', k = k' + 1 := ⟨k - 1, by omega⟩
    unfold chartularylaw11_MemberOne.l3
    rw [if_neg (by omega)]
    rcases hb with rfl | ⟨j, h1, h2, _⟩
    · simp
    · omega
  | succ n ih =>
    intro i k b hn hi hk hb
    obtain ⟨k, rfl⟩ : ∃ k', k = k' + 3 + 1 := ⟨k - 4, by omega⟩
    have hin := getD_mem (l := x6) (i := i) (by omega)
    have no : overM (x6.getD i z24).f0 (x6.getD i z24).f1 (x6.getD i z24).f2 m.f0 m.f1 m.f2 = false := by
      rw [Bool.eq_false_iff]; intro h
      have h1 := ((over_iff _ _ _ _ _ _).1 h).2
      have h2 := hmax _ hin
      unfold ltS at h2
      omega
    unfold chartularylaw11_MemberOne.l3
    rw [if_pos (by omega), rdN, one_over, no, wrapN i (by omega)]
    simp only [Option.bind_some, Bool.false_eq_true, if_false]
    cases b with
    | true =>
      rw [if_pos rfl, if_pos (by omega)]
      exact ih (i + 1) (k + 3) true (by omega) (by omega) (by omega) (.inl rfl)
    | false =>
      rw [if_neg (by simp), if_pos (by omega)]
      refine ih (i + 1) (k + 3) _ (by omega) (by omega) (by omega) ?_
      rcases hb with hb | ⟨j, h1, h2, h3⟩
      · simp at hb
      · by_cases hji : j = i
        · subst hji; left; rw [h3]; simp
        · exact .inr ⟨j, by omega, h2, h3⟩
theorem same_left {g : Int} {a b : S24} (ha : Fit g a) (hb : Fit g b) (h1 : ¬ ltS a b) (h2 : ¬ ltS b a) : a = b := by
  obtain ⟨a0, a1, a2⟩ := a
  obtain ⟨b0, b1, b2⟩ := b
  have e0 := ha.1.trans hb.1.symm
  unfold ltS at h1 h2
  simp only at *
  have : a2 = b2 := by omega
  have : a1 = b1 := by omega
  subst_vars
  rfl
/-- the third loop: all words once more, from the last to the first; then both rows are left with one word, the same -/
theorem one_l2 (g : Int) (x6 : List S24) (h0 : 0 < x6.length) (hs : x6.length ≤ 20) (hl : ∀ x ∈ x6, Fit g x) : ∀ (n k : Nat) (x8 : List S24), n ≤ x6.length → x8.length + n < 100 → (∀ x ∈ x8, x ∈ x6) → (∀ j, n ≤ j → j < x6.length → x6.getD j z24 ∈ x8) → n + 200 ≤ k →
    chartularylaw11_MemberOne.l2 k true x6 x8 ((n : Int) - 1) = some true := by
  intro n
  induction n with
  | zero =>
    intro k x8 hn hx hsub hall hk
    obtain ⟨k, rfl⟩ : ∃ k', k = k' + 1 := ⟨k - 1, by omega⟩
    have hp : 0 < x8.length := List.length_pos_of_mem (hall 0 (by omega) h0)
    have hl8 : ∀ x ∈ x8, Fit g x := fun x hx => hl x (hsub x hx)
    obtain ⟨m, e, hm, hin, hmax⟩ := merged_left g x6 (by omega) hl h0 k (by omega)
    obtain ⟨m', e', hm', hin', hmax'⟩ := merged_left g x8 (by omega) hl8 hp k (by omega)
    have hmm : m = m' := by
      refine same_left hm hm' (hmax _ (hsub _ hin')) (hmax' _ ?_)
      obtain ⟨j, hj, rfl⟩ := List.getElem_of_mem hin
      have := hall j (by omega) hj
      rwa [List.getD_eq_getElem?_getD, List.getElem?_eq_getElem hj] at this
    subst hmm
    unfold chartularylaw11_MemberOne.l2
    rw [if_neg (by omega), if_pos (by omega), e, Option.bind_some, if_pos (by omega), e', Option.bind_some]
    obtain ⟨j, hj, hjm⟩ := List.getElem_of_mem hin
    exact one_l3 m x6 (by omega) hmax x6.length 0 k false (by omega) (by omega) (by omega) (.inr ⟨j, by omega, hj, by rw [List.getD_eq_getElem?_getD, List.getElem?_eq_getElem hj]; exact hjm⟩)
  | succ n ih =>
    intro k x8 hn hx hsub hall hk
    obtain ⟨k, rfl⟩ : ∃ k', k = k' + 1 := ⟨k - 1, by omega⟩
    have e1 : ((n + 1 : Nat) : Int) - 1 = (n : Int) := by omega
    have hin := getD_mem (l := x6) (i := n) (by omega)
    have w1 : wrap64 ((n : Int) - 1) = (n : Int) - 1 := by unfold wrap64; omega
    unfold chartularylaw11_MemberOne.l2
    rw [e1, if_pos (by omega), if_pos (by omega), if_pos (by omega), if_pos (by omega), rdN, w1]
    refine ih k _ (by omega) (by simp; omega) ?_ ?_ (by omega)
    · intro x hx
      rcases List.mem_append.1 hx with h | h
      · exact hsub x h
      · rw [List.mem_singleton] at h; rw [h]; exact hin
    · intro j h1 h2
      by_cases hj : j = n
      · subst hj; exact List.mem_append_right _ (by simp)
      · exact List.mem_append_left _ (hall j (by omega) h2)
/-- the second loop: words are said again, as drawn -/
theorem one_l1 (g : Int) (x1 : List Int) (h1 : x1.length ≤ 40) (x6 : List S24) (h0 : 0 < x6.length) (hs : x6.length ≤ 20) (hl : ∀ x ∈ x6, Fit g x) : ∀ (n i k : Nat) (x8 : List S24), n = x1.length - i → i ≤ x1.length → x8.length ≤ i → (∀ x ∈ x8, x ∈ x6) → n + 300 ≤ k →
    chartularylaw11_MemberOne.l1 k x1 true x6 x8 (i : Int) = some true := by
  intro n
  induction n with
  | zero =>
    intro i k x8 hn hi hx hsub hk
    obtain ⟨k, rfl⟩ : ∃ k', k = k' + 1 := ⟨k - 1, by omega⟩
    have w1 : wrap64 ((x6.length : Int) - 1) = (x6.length : Int) - 1 := by unfold wrap64; omega
    unfold chartularylaw11_MemberOne.l1
    rw [if_neg (by omega), w1]
    exact one_l2 g x6 h0 hs hl x6.length k x8 (by omega) (by omega) hsub (fun j h1 h2 => absurd h2 (by omega)) (by omega)
  | succ n ih =>
    intro i k x8 hn hi hx hsub hk
    obtain ⟨k, rfl⟩ : ∃ k', k = k' + 1 := ⟨k - 1, by omega⟩
    obtain ⟨t, ht, e⟩ := pick_in (rd x1 (i : Int)) x6.length h0 (by omega)
    unfold chartularylaw11_MemberOne.l1
    rw [if_pos (by omega), if_pos (by omega), e, Option.bind_some, if_pos (by omega), if_pos (by omega), if_pos (by omega), rdN, wrapN i (by omega)]
    refine ih (i + 1) k _ (by omega) (by omega) (by simp; omega) ?_ (by omega)
    intro x hx
    rcases List.mem_append.1 hx with h | h
    · exact hsub x h
    · rw [List.mem_singleton] at h; rw [h]; exact getD_mem ht
/-- the first loop: every word is turned to the first one's node, and looked at -/
theorem one_l0 (x0 : List S24) (x1 : List Int) (hp : 0 < x0.length) (h1 : x1.length ≤ 40) : ∀ (n i k : Nat) (x6 : List S24), n = x6.length - i → i ≤ x6.length → 0 < x6.length → x6.length ≤ 20 → (∀ j, j < i → Fit (rd_T24 x0 0).f0 (x6.getD j z24)) → n + 400 ≤ k →
    chartularylaw11_MemberOne.l0 k x0 x1 true x6 (i : Int) = some true := by
  intro n
  induction n with
  | zero =>
    intro i k x6 hn hi h0 hs hall hk
    obtain ⟨k, rfl⟩ : ∃ k', k = k' + 1 := ⟨k - 1, by omega⟩
    unfold chartularylaw11_MemberOne.l0
    rw [if_neg (by omega)]
    refine one_l1 (rd_T24 x0 0).f0 x1 h1 x6 h0 hs ?_ x1.length 0 k [] (by omega) (by omega) (by simp) (by simp) (by omega)
    intro x hx
    obtain ⟨j, hj, rfl⟩ := List.getElem_of_mem hx
    have := hall j (by omega)
    rwa [List.getD_eq_getElem?_getD, List.getElem?_eq_getElem hj] at this
  | succ n ih =>
    intro i k x6 hn hi h0 hs hall hk
    obtain ⟨k, rfl⟩ : ∃ k', k = k' + 1 := ⟨k - 1, by omega⟩
    unfold chartularylaw11_MemberOne.l0
    rw [if_pos (by omega), if_pos (by omega), if_pos (by omega), Option.bind_some, rdN, rdN, Int.toNat_natCast, wrapN i (by omega), one_check]
    have hset : (x6.set i (⟨(rd_T24 x0 0).f0, (x6.getD i z24).f1, (x6.getD i z24).f2⟩ : S24)).getD i z24 = ⟨(rd_T24 x0 0).f0, (x6.getD i z24).f1, (x6.getD i z24).f2⟩ := by
      rw [List.getD_eq_getElem?_getD, List.getElem?_set_self (by omega)]; rfl
    rw [hset, Option.bind_some]
    unfold chkM
    cases hok : okM (rd_T24 x0 0).f0 (x6.getD i z24).f1 (x6.getD i z24).f2 with
    | false => simp
    | true =>
      rw [if_pos (by simp)]
      refine ih (i + 1) k _ (by rw [List.length_set]; omega) (by rw [List.length_set]; omega) (by rw [List.length_set]; omega) (by rw [List.length_set]; omega) ?_ (by omega)
      intro j hj
      by_cases hji : j = i
      · subst hji; rw [hset]; exact ⟨rfl, hok⟩
      · rw [List.getD_eq_getElem?_getD, List.getElem?_set_ne (by omega), ← List.getD_eq_getElem?_getD]; exact hall j (by omega)
theorem one_j0_true (k : Nat) (l0 : List S24) (l1 : List Int) : chartularylaw11_MemberOne.j0 (k + 1) l0 l1 true true = some true := by
  rw [chartularylaw11_MemberOne.j0]
  rw [if_pos rfl]
theorem one_j0_false (k : Nat) (hk : 450 ≤ k) (l0 : List S24) (l1 : List Int) (h1 : l0.length ≤ 20) (h2 : 0 < l0.length) (h3 : l1.length ≤ 40) : chartularylaw11_MemberOne.j0 (k + 1) l0 l1 true false = some true := by
  rw [chartularylaw11_MemberOne.j0]
  rw [if_neg (by simp), Option.bind_some, if_pos (by simp; omega), List.nil_append]
  exact one_l0 l0 l1 h2 h3 l0.length 0 k l0 (by omega) (by omega) h2 h1 (fun j h => absurd h (by omega)) (by omega)
theorem memberOne_plain (k : Nat) (hk : 450 ≤ k) (l0 : List S24) (l1 : List Int) : chartularylaw11_MemberOne.f (k + 1) l0 l1 = some true := by
  unfold chartularylaw11_MemberOne.f chartularylaw11_MemberKnown.f
  rw [Option.bind_some]
  by_cases h1 : (l0.length : Int) > 20
  · rw [if_pos h1]; exact one_j0_true k l0 l1
  rw [if_neg h1]
  by_cases h2 : (l0.length : Int) = 0
  · rw [if_pos h2]; exact one_j0_true k l0 l1
  rw [if_neg h2]
  by_cases h3 : (l1.length : Int) > 40
  · rw [decide_eq_true h3]; exact one_j0_true k l0 l1
  rw [decide_eq_false h3]
  exact one_j0_false k hk l0 l1 (by omega) (by omega) (by omega)
end Go.Proofs.Ytakcidegacikoaa.PMemberOne
