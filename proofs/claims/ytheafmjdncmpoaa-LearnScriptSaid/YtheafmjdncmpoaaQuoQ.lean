/-
  Quorum: what a quorum is in memory; Met and Lost.
-/
import Derived.Test.YtheafmjdncmpoaaQuoC
namespace Go.Proofs.Ytheafmjdncmpoaa
set_option linter.unusedSimpArgs false
set_option linter.unusedVariables false
open Go.RowKit Go.Proofs.YtheafmjdncmpoaaW.PrintWords

/-- a quorum of slots S at block b, with the blocks F of its own -/
def QAt (w : World) (base : Nat) (F : Nat → Prop) (b : Nat) (S : List Qs) (need : Int) : Prop :=
  ∃ v, F b ∧ base ≤ b ∧ w.heap[b]? = some (.cells #[v, .int .i64 need] 59 (0, 0)) ∧ kQ.R 110 w base F v S
theorem QAt.below {w w1 : World} {base : Nat} {F : Nat → Prop} {b : Nat} {S : List Qs} {need : Int} (h : QAt w base F b S need) (hb : Below w.heap.size w w1) : QAt w1 base F b S need := by
  obtain ⟨v, h1, h2, h3, h4⟩ := h
  exact ⟨v, h1, h2, (hb.block b (Array.getElem?_eq_some_iff.1 h3).1).trans h3, Kd.R_below h4 hb⟩
theorem QAt.form {w : World} {base : Nat} {F : Nat → Prop} {b : Nat} {S : List Qs} {need : Int} (h : QAt w base F b S need) :
    ∃ v, w.heap[b]? = some (.cells #[v, .int .i64 need] 59 (0, 0)) ∧ ((v = .slice none 0 0 ∧ S = []) ∨
      ∃ g c, v = .slice (some ⟨g, 0, none⟩) S.length c ∧ base ≤ g ∧ F g ∧ ∀ i, i < S.length → SlotAt w ⟨g, i * 3, none⟩ (S.getD i zQ)) := by
  obtain ⟨v, _, _, h3, h4⟩ := h
  refine ⟨v, h3, ?_⟩
  have h4' := h4
  obtain ⟨h0, inner, ho, hr⟩ := h4
  rcases ho.2 with ⟨rfl, hz⟩ | ⟨g, cap, cur, rfl, hg, _, _, hm, _⟩
  · exact .inl ⟨rfl, List.length_eq_zero_iff.1 hz⟩
  · refine .inr ⟨g, cap, rfl, hg, h0 g rfl, fun i hi => ?_⟩
    obtain ⟨ad, e, hs⟩ := slot_at (Kd.R_reads' h4').2.2 i hi
    obtain rfl := Option.some.inj e
    rwa [add_plain] at hs
/-- how many slots are met; how many are not lost -/
def metN (S : List Qs) : Nat := countN (fun i => (S.getD i zQ).y.isSome) S.length
def keptN (S : List Qs) : Nat := countN (fun i => (S.getD i zQ).b != 1) S.length
theorem SlotAt.met {w w' : World} {b o : Nat} {s : Qs} (h : SlotAt w ⟨b, o, none⟩ s) (hb : Below w.heap.size w w') :
    Calls Try.prog 71 (#[.pointer (some ⟨b, o, none⟩)] ++ #[]) w' fun e u => e = .returned (.bool s.y.isSome) ∧ Below w'.heap.size w' u := by
  have h' := h.below hb
  obtain ⟨_, _, h3⟩ := h'
  rcases h3 with ⟨h3, h4⟩ | ⟨g, v, h3, h4, _⟩
  · rw [h3]; exact (met_any b o none w' h4).mono fun e u ⟨h1, h2⟩ => ⟨h1, by rw [h2]; exact Below.refl _ _⟩
  · rw [h3]; exact (met_any b o _ w' h4).mono fun e u ⟨h1, h2⟩ => ⟨h1, by rw [h2]; exact Below.refl _ _⟩
theorem SlotAt.lost {w w' : World} {b o : Nat} {s : Qs} (h : SlotAt w ⟨b, o, none⟩ s) (hb : Below w.heap.size w w') :
    Calls Try.prog 79 (#[.pointer (some ⟨b, o, none⟩)] ++ #[]) w' fun e u => e = .returned (.bool (s.b != 1)) ∧ Below w'.heap.size w' u := by
  obtain ⟨_, h2, _⟩ := h.below hb
  exact (lost1_any b o s.b w' h2).mono fun e u ⟨h1, h2⟩ => ⟨h1, by rw [h2]; exact Below.refl _ _⟩
theorem held_below {w w' : World} {b : Nat} {v x : Value} (h : Below w.heap.size w w' ∧ w'.cell? ⟨b, 0, none⟩ = some v ∧ w'.cell? ⟨b, 1, none⟩ = some x) : Below w.heap.size w w' := h.1
theorem held_next {w w' u : World} {b : Nat} {v x : Value} (h : Below w.heap.size w w' ∧ w'.cell? ⟨b, 0, none⟩ = some v ∧ w'.cell? ⟨b, 1, none⟩ = some x) (hb : Below w'.heap.size w' u) :
    Below w.heap.size w u ∧ u.cell? ⟨b, 0, none⟩ = some v ∧ u.cell? ⟨b, 1, none⟩ = some x := ⟨below_step h.1 hb, pw_cell_below hb h.2.1, pw_cell_below hb h.2.2⟩
set_option maxHeartbeats 1600000 in
set_option maxRecDepth 100000 in
theorem Met_any (base : Nat) (F : Nat → Prop) (b : Nat) (S : List Qs) (need : Int) (w : World) (h : QAt w base F b S need) (hS : S.length ≤ 1000) (hneed : need ≠ 0) :
    Calls Try.prog 43 #[.pointer (some ⟨b, 0, none⟩)] w fun e w' => e = .returned (.bool (decide (need ≤ (metN S : Int)))) ∧ Below w.heap.size w w' := by
  obtain ⟨v, hq, hv⟩ := h.form
  have hc0 := cell_of_row _ b 0 _ _ _ hq
  have hc1 := cell_of_row _ b 1 _ _ _ hq
  simp at hc0 hc1
  have hne : (need == 0) = false := by simpa using hneed
  have HN : ∀ w', Below w.heap.size w w' → Calls Try.prog 70 #[.pointer (some ⟨b, 0, none⟩)] w' fun e u => e = .returned (.bool false) ∧ Below w'.heap.size w' u := fun w' hb => by
    have := none_at b need w' (pw_cell_below hb hc1)
    rw [hne] at this
    exact this.mono fun e u ⟨h1, h2⟩ => ⟨h1, by rw [h2]; exact Below.refl _ _⟩
  have HC : ∀ w', Below w.heap.size w w' → Calls Try.prog 78 #[v, .func (.func 71) #[] #[]] w' fun e u => e = .returned (.int .i64 (metN S)) ∧ Below w'.heap.size w' u := fun w' hb => by
    rcases hv with ⟨rfl, rfl⟩ | ⟨g, c, rfl, _, _, hs⟩
    · exact count_nil _ w'
    · exact count_row 71 _ #[] g S.length c (fun i => (S.getD i zQ).y.isSome) w' (by omega) Try.func71 (by kernel_rfl) rfl fun u hu i hi => (hs i hi).met (hb.trans (hu.mono hb.size))
  obtain ⟨r, hr⟩ : ∃ r, r = metN S := ⟨_, rfl⟩
  rw [← hr] at HC ⊢
  have HN := Aside0.mk HN
  have HC := Aside0.mk HC
  clear hv hq h hr hne
  go_enter Try.func43, Try.ntmps43
  go_wp2_with fail
  go_region_held3 (fun w' => Below w.heap.size w w' ∧ w'.cell? ⟨b, 0, none⟩ = some v ∧ w'.cell? ⟨b, 1, none⟩ = some (.int .i64 need))
    (first | exact ⟨below_drew (Below.refl _ _), by simpa using hc0, by simpa using hc1⟩ | assumption)
    (first | (go_at_call 70; refine (HN.out _ (held_below ‹_›)).mono ?_; rintro e u ⟨rfl, hb⟩; have hk := held_next ‹_› hb; clear hb) | (go_at_call 78; refine (HC.out _ (held_below ‹_›)).mono ?_; rintro e u ⟨rfl, hb⟩; have hk := held_next ‹_› hb; clear hb))
  go_wp2
  go_ret
  exact ⟨rfl, held_below ‹_›⟩
set_option maxHeartbeats 1600000 in
set_option maxRecDepth 100000 in
theorem Lost_any (base : Nat) (F : Nat → Prop) (b : Nat) (S : List Qs) (need : Int) (w : World) (h : QAt w base F b S need) (hS : S.length ≤ 1000) (hneed : need ≠ 0) :
    Calls Try.prog 44 #[.pointer (some ⟨b, 0, none⟩)] w fun e w' => e = .returned (.bool (decide ((keptN S : Int) < need))) ∧ Below w.heap.size w w' := by
  obtain ⟨v, hq, hv⟩ := h.form
  have hc0 := cell_of_row _ b 0 _ _ _ hq
  have hc1 := cell_of_row _ b 1 _ _ _ hq
  simp at hc0 hc1
  have hne : (need == 0) = false := by simpa using hneed
  have HN : ∀ w', Below w.heap.size w w' → Calls Try.prog 70 #[.pointer (some ⟨b, 0, none⟩)] w' fun e u => e = .returned (.bool false) ∧ Below w'.heap.size w' u := fun w' hb => by
    have := none_at b need w' (pw_cell_below hb hc1)
    rw [hne] at this
    exact this.mono fun e u ⟨h1, h2⟩ => ⟨h1, by rw [h2]; exact Below.refl _ _⟩
  have HC : ∀ w', Below w.heap.size w w' → Calls Try.prog 78 #[v, .func (.func 79) #[] #[]] w' fun e u => e = .returned (.int .i64 (keptN S)) ∧ Below w'.heap.size w' u := fun w' hb => by
    rcases hv with ⟨rfl, rfl⟩ | ⟨g, c, rfl, _, _, hs⟩
    · exact count_nil _ w'
    · exact count_row 79 _ #[] g S.length c (fun i => (S.getD i zQ).b != 1) w' (by omega) Try.func79 (by kernel_rfl) rfl fun u hu i hi => (hs i hi).lost (hb.trans (hu.mono hb.size))
  obtain ⟨r, hr⟩ : ∃ r, r = keptN S := ⟨_, rfl⟩
  rw [← hr] at HC ⊢
  have HN := Aside0.mk HN
  have HC := Aside0.mk HC
  clear hv hq h hr hne
  go_enter Try.func44, Try.ntmps44
  go_wp2_with fail
  go_region_held3 (fun w' => Below w.heap.size w w' ∧ w'.cell? ⟨b, 0, none⟩ = some v ∧ w'.cell? ⟨b, 1, none⟩ = some (.int .i64 need))
    (first | exact ⟨below_drew (Below.refl _ _), by simpa using hc0, by simpa using hc1⟩ | assumption)
    (first | (go_at_call 70; refine (HN.out _ (held_below ‹_›)).mono ?_; rintro e u ⟨rfl, hb⟩; have hk := held_next ‹_› hb; clear hb) | (go_at_call 78; refine (HC.out _ (held_below ‹_›)).mono ?_; rintro e u ⟨rfl, hb⟩; have hk := held_next ‹_› hb; clear hb))
  go_wp2
  go_ret
  exact ⟨rfl, held_below ‹_›⟩
end Go.Proofs.Ytheafmjdncmpoaa
