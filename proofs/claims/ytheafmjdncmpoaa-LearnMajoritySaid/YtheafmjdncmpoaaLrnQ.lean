/-
  Learn: plain laws: what Hear does to a learner.
-/
import Derived.Test.YtheafmjdncmpoaaLrnA
namespace Go.Proofs.Ytheafmjdncmpoaa
set_option linter.unusedSimpArgs false
set_option linter.unusedVariables false
open Go.RowKit Go.Proofs.YtheafmjdncmpoaaW.PrintWords Go.Proofs.YtheafmjdncmpoaaW.PrintMore

theorem countN_false {P : Nat → Bool} : ∀ {n : Nat}, countN P n = 0 → ∀ i, i < n → P i = false
  | n + 1, h, i, hi => by
    unfold countN at h
    by_cases e : i = n
    · subst e
      cases hp : P i with
      | false => rfl
      | true => rw [hp] at h; simp at h
    · exact countN_false (n := n) (by omega) i (by omega)
theorem countN_none {P : Nat → Bool} : ∀ {n : Nat}, (∀ i, i < n → P i = false) → countN P n = 0
  | 0, _ => rfl
  | n + 1, h => by
    unfold countN
    rw [h n (by omega), countN_none (n := n) (fun i hi => h i (by omega))]
    rfl
def pairOf (L : Lr) (i : Nat) : Int × Int := ((L.of i).n, (L.of i).d)
structure HearF (L : Lr) (k n d : Int) (x : List Int) (r : Bool) (er : Int) (L' : Lr) : Prop where
  ok : er = 0 → 1 ≤ k ∧ k ≤ L.nodes
  nodes : L'.nodes = L.nodes
  of : ∀ j, pairOf L' j = if er = 0 ∧ j = k.toNat ∧ lessB (L.of j).n (L.of j).d n d = true then (n, d) else pairOf L j
  dec : r = (L'.dec && !L.dec)
  got : r = true → er = 0 ∧ L.nodes / 2 + 1 ≤ countN (goodI L' n d) L.nodes ∧ L'.data = x
  old : L.dec = true → L'.dec = true ∧ L'.data = L.data
  again : hearI L' k n d x = ((false, er), L')
theorem lessB_self (n d : Int) : lessB n d n d = false := by rw [lessB_not]; omega
theorem hear_stay {L : Lr} {k n d : Int} {x : List Int} {er : Int} (h : hearI L k n d x = ((false, er), L)) (ok : er = 0 → 1 ≤ k ∧ k ≤ L.nodes) (hl : er = 0 → lessB (L.of k.toNat).n (L.of k.toNat).d n d = false) : HearF L k n d x false er L :=
  ⟨ok, rfl, fun j => by
    split
    · rename_i hc
      obtain ⟨h1, h2, h3⟩ := hc
      subst h2
      rw [hl h1] at h3
      cases h3
    · rfl, (by cases L.dec <;> rfl), fun h => (by cases h), fun h => ⟨h, rfl⟩, h⟩
theorem hear_facts (L : Lr) (k n d : Int) (x : List Int) : HearF L k n d x (hearI L k n d x).1.1 (hearI L k n d x).1.2 (hearI L k n d x).2 := by
  by_cases h1 : k < 1 ∨ (L.nodes : Int) < k ∨ checkB n d = false ∨ 4000 < x.length
  · have e : hearI L k n d x = ((false, 2), L) := by unfold hearI; rw [if_pos h1]
    rw [e]
    exact hear_stay e (fun h => by cases h) (fun h => by cases h)
  · by_cases h2 : 0 < countN (badI L n d x) L.nodes
    · have e : hearI L k n d x = ((false, 12), L) := by unfold hearI; rw [if_neg h1, if_pos h2]
      rw [e]
      exact hear_stay e (fun h => by cases h) (fun h => by cases h)
    · have hk : 1 ≤ k ∧ k ≤ L.nodes := by omega
      by_cases h3 : lessB (L.of k.toNat).n (L.of k.toNat).d n d = false
      · have e : hearI L k n d x = ((false, 0), L) := by unfold hearI; rw [if_neg h1, if_neg h2, if_pos h3]
        rw [e]
        exact hear_stay e (fun _ => hk) (fun _ => h3)
      · have h3' : lessB (L.of k.toNat).n (L.of k.toNat).d n d = true := by simpa using h3
        have hbad : countN (badI (L.set k.toNat ⟨n, d, x⟩) n d x) L.nodes = 0 := countN_none fun i hi => by
          have h0 := countN_false (P := badI L n d x) (n := L.nodes) (by omega) i hi
          unfold badI Lr.set
          simp only
          split
          · simp only; rw [sameB_refl]; simp
          · exact h0
        have hof : (L.set k.toNat ⟨n, d, x⟩).of k.toNat = ⟨n, d, x⟩ := by unfold Lr.set; simp
        have hpair : ∀ L' : Lr, L'.of = (L.set k.toNat ⟨n, d, x⟩).of → ∀ j, pairOf L' j = if (0 : Int) = 0 ∧ j = k.toNat ∧ lessB (L.of j).n (L.of j).d n d = true then (n, d) else pairOf L j := fun L' hL j => by
          unfold pairOf
          rw [hL]
          by_cases e : j = k.toNat
          · rw [if_pos ⟨rfl, e, by rw [e]; exact h3'⟩, e, hof]
          · rw [if_neg (fun h => e h.2.1)]
            unfold Lr.set
            simp only [if_neg e]
        have hagain : ∀ L' : Lr, L'.of = (L.set k.toNat ⟨n, d, x⟩).of → L'.nodes = L.nodes → hearI L' k n d x = ((false, 0), L') := fun L' hL hN => by
          unfold hearI
          rw [hN, if_neg h1, if_neg (by
            have : badI L' n d x = badI (L.set k.toNat ⟨n, d, x⟩) n d x := by funext i; unfold badI; rw [hL]
            rw [this, hbad]; omega), hL, hof, if_pos (lessB_self n d)]
        by_cases h4 : countN (goodI (L.set k.toNat ⟨n, d, x⟩) n d) L.nodes < L.nodes / 2 + 1
        · have e : hearI L k n d x = ((false, 0), L.set k.toNat ⟨n, d, x⟩) := by unfold hearI; rw [if_neg h1, if_neg h2, if_neg h3, if_pos h4]
          rw [e]
          exact ⟨fun _ => hk, rfl, hpair _ rfl, (by show false = (L.dec && !L.dec); cases L.dec <;> rfl), fun h => (by cases h), fun h => ⟨h, rfl⟩, hagain _ rfl rfl⟩
        · have e : hearI L k n d x = (((decideI (L.set k.toNat ⟨n, d, x⟩) x).1, 0), (decideI (L.set k.toNat ⟨n, d, x⟩) x).2) := by unfold hearI; rw [if_neg h1, if_neg h2, if_neg h3, if_neg h4]
          rw [e]
          have hset : (L.set k.toNat ⟨n, d, x⟩).dec = L.dec := rfl
          cases hd : L.dec with
          | true =>
            have e2 : decideI (L.set k.toNat ⟨n, d, x⟩) x = (false, L.set k.toNat ⟨n, d, x⟩) := by unfold decideI; rw [hset, hd]; rfl
            rw [e2]
            exact ⟨fun _ => hk, rfl, hpair _ rfl, (by show false = (L.dec && !L.dec); cases L.dec <;> rfl), fun h => (by cases h), fun h => ⟨h, rfl⟩, hagain _ rfl rfl⟩
          | false =>
            have e2 : decideI (L.set k.toNat ⟨n, d, x⟩) x = (true, { L.set k.toNat ⟨n, d, x⟩ with dec := true, data := x }) := by unfold decideI; rw [hset, hd]; rfl
            rw [e2]
            refine ⟨fun _ => hk, rfl, hpair _ rfl, by rw [hd]; rfl, fun _ => ⟨rfl, ?_, rfl⟩, fun h => (by rw [hd] at h; cases h), hagain _ rfl rfl⟩
            have : goodI { L.set k.toNat ⟨n, d, x⟩ with dec := true, data := x } n d = goodI (L.set k.toNat ⟨n, d, x⟩) n d := rfl
            simp only
            rw [this]
            omega
theorem told_facts (L : Lr) (x : List Int) : (toldI L x).1.1 = ((toldI L x).1.2 == 0 && !L.dec) ∧ (toldI L x).2.nodes = L.nodes ∧ (∀ j, pairOf (toldI L x).2 j = pairOf L j) := by
  unfold toldI
  split
  · exact ⟨rfl, rfl, fun _ => rfl⟩
  · split
    · exact ⟨rfl, rfl, fun _ => rfl⟩
    · unfold decideI
      cases hd : L.dec with
      | true => exact ⟨rfl, rfl, fun _ => rfl⟩
      | false => exact ⟨rfl, rfl, fun _ => rfl⟩
end Go.Proofs.Ytheafmjdncmpoaa
