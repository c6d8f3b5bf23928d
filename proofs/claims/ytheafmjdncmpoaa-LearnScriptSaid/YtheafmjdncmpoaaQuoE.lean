/-
  Quorum: its functions as a law calls them: one quorum, all its blocks from a base on.
-/
import Derived.Test.YtheafmjdncmpoaaQuoZ
namespace Go.Proofs.Ytheafmjdncmpoaa
set_option linter.unusedSimpArgs false
set_option linter.unusedVariables false
open Go.RowKit Go.Proofs.YtheafmjdncmpoaaW.PrintWords Go.Proofs.YtheafmjdncmpoaaW.PrintMore

/-- a quorum at b, of blocks from base on -/
def QB (w : World) (base b : Nat) (S : List Qs) (need : Int) : Prop := QAt w base (fun k => base ≤ k) b S need ∧ base ≤ w.heap.size
theorem QAt.atBase {w : World} {base : Nat} {F : Nat → Prop} {b : Nat} {S : List Qs} {need : Int} (h : QAt w base F b S need) : QAt w base (fun k => base ≤ k) b S need := by
  obtain ⟨v, h1, h2, h3, h4⟩ := h
  exact ⟨v, h2, h2, h3, Kd.R_mono (Kd.R_bound h4) (fun k hk => hk.2.1)⟩
theorem QB.below {w w1 : World} {base b : Nat} {S : List Qs} {need : Int} (h : QB w base b S need) (hb : Below w.heap.size w w1) : QB w1 base b S need := ⟨h.1.below hb, Nat.le_trans h.2 hb.size⟩
theorem Below.lower {w w1 : World} {base : Nat} (h : Below w.heap.size w w1) (hb : base ≤ w.heap.size) : Below base w w1 := ⟨h.os, h.tape, h.output, h.size, fun k hk => h.block k (by omega)⟩
theorem Add_step (base b : Nat) (S : List Qs) (need n who : Int) (w : World) (h : QB w base b S need) (hS : S.length ≤ 1000) (hpos : 0 < S.length) (hneed : need ≠ 0) :
    Calls Try.prog 40 #[.pointer (some ⟨b, 0, none⟩), .int .i64 n, .int .i64 who] w fun e w' => e = .returned (.int .i64 (addI S n who).1) ∧ Below base w w' ∧ QB w' base b (addI S n who).2 need :=
  (Add_in base _ b S need n who w h.1 hS hpos hneed h.2).mono fun e u ⟨h1, h2, h3⟩ => ⟨h1, h2.below (fun k hk => hk) h.2, h3.atBase, Nat.le_trans h.2 h2.size⟩
theorem Lose_step (base b : Nat) (S : List Qs) (need n : Int) (w : World) (h : QB w base b S need) (hS : S.length ≤ 1000) (hpos : 0 < S.length) (hneed : need ≠ 0) :
    Calls Try.prog 38 #[.pointer (some ⟨b, 0, none⟩), .int .i64 n] w fun e w' => e = .returned (.int .i64 (loseI S n).1) ∧ Below base w w' ∧ QB w' base b (loseI S n).2 need :=
  (Lose_any base _ b S need n w h.1 hS hpos hneed).mono fun e u ⟨h1, h2, h3⟩ => ⟨h1, h2.below (fun k hk => hk) h.2, h3, Nat.le_trans h.2 h2.size⟩
theorem Met_step (base b : Nat) (S : List Qs) (need : Int) (w : World) (h : QB w base b S need) (hS : S.length ≤ 1000) (hneed : need ≠ 0) :
    Calls Try.prog 43 #[.pointer (some ⟨b, 0, none⟩)] w fun e w' => e = .returned (.bool (decide (need ≤ (metN S : Int)))) ∧ Below base w w' ∧ QB w' base b S need :=
  (Met_any base _ b S need w h.1 hS hneed).mono fun e u ⟨h1, h2⟩ => ⟨h1, Below.lower h2 h.2, h.below h2⟩
theorem Lost_step (base b : Nat) (S : List Qs) (need : Int) (w : World) (h : QB w base b S need) (hS : S.length ≤ 1000) (hneed : need ≠ 0) :
    Calls Try.prog 44 #[.pointer (some ⟨b, 0, none⟩)] w fun e w' => e = .returned (.bool (decide ((keptN S : Int) < need))) ∧ Below base w w' ∧ QB w' base b S need :=
  (Lost_any base _ b S need w h.1 hS hneed).mono fun e u ⟨h1, h2⟩ => ⟨h1, Below.lower h2 h.2, h.below h2⟩
/-- a slice of ints told: it is nil or leads to a row from base on -/
theorem Open_step (base b : Nat) (S : List Qs) (need : Int) (w : World) (h : QB w base b S need) (hS : S.length ≤ 1000) (hneed : need ≠ 0) :
    Calls Try.prog 45 #[.pointer (some ⟨b, 0, none⟩)] w fun e w' => ∃ A c, e = .returned (.slice A (openL S S.length).length c) ∧ Below base w w' ∧ QB w' base b S need ∧ Kd.C kI w' A (openL S S.length).length (openL S S.length) ∧ (openL S S.length).length ≤ c :=
  (Open_any base _ b S need w h.1 hS hneed).mono fun e u ⟨v, h1, h2, h3⟩ => by
    obtain ⟨A, c, e1, e2, e3⟩ := Kd.R_reads h3
    exact ⟨A, c, by rw [h1, e1], Below.lower h2 h.2, h.below h2, e3, e2⟩
theorem Nodes_step (base b : Nat) (S : List Qs) (need : Int) (w : World) (h : QB w base b S need) (hS : S.length ≤ 1000) (hneed : need ≠ 0) :
    Calls Try.prog 46 #[.pointer (some ⟨b, 0, none⟩)] w fun e w' => ∃ A c, e = .returned (.slice A (nodesL S S.length).length c) ∧ Below base w w' ∧ QB w' base b S need ∧ Kd.C kI w' A (nodesL S S.length).length (nodesL S S.length) ∧ (nodesL S S.length).length ≤ c :=
  (Nodes_any base _ b S need w h.1 hS hneed).mono fun e u ⟨v, h1, h2, h3⟩ => by
    obtain ⟨A, c, e1, e2, e3⟩ := Kd.R_reads h3
    exact ⟨A, c, by rw [h1, e1], Below.lower h2 h.2, h.below h2, e3, e2⟩
/-- New, where it makes one -/
theorem New_step (A : Option Addr) (cap : Nat) (l : List Int) (need : Int) (w : World) (S : List Qs) (hr : Kd.C kI w A l.length l) (hl : l.length ≤ 1000) (hS : newS l l.length = some S) (hn : 1 ≤ need ∧ need ≤ l.length) :
    Calls Try.prog 32 #[.slice A l.length cap, .int .i64 need] w fun e w' => ∃ b, e = .returned (.tuple #[.pointer (some ⟨b, 0, none⟩), .int .i64 0]) ∧ Below w.heap.size w w' ∧ QB w' w.heap.size b S need :=
  (New_any A cap l need w hr hl).mono fun e u h => by
    unfold NewAns at h
    rw [hS] at h
    simp only at h
    rw [if_neg (by omega)] at h
    obtain ⟨b, h1, h2, h3⟩ := h
    exact ⟨b, h1, h2, h3.atBase, h2.size⟩
/-- New, where it makes none -/
theorem New_fails (A : Option Addr) (cap : Nat) (l : List Int) (need : Int) (w : World) (hr : Kd.C kI w A l.length l) (hl : l.length ≤ 1000) (hS : newS l l.length = none ∨ need < 1 ∨ (l.length : Int) < need) :
    Calls Try.prog 32 #[.slice A l.length cap, .int .i64 need] w fun e w' => e = .returned (.tuple #[.pointer none, .int .i64 2]) ∧ Below w.heap.size w w' :=
  (New_any A cap l need w hr hl).mono fun e u h => by
    unfold NewAns at h
    cases hc : newS l l.length with
    | none => rw [hc] at h; exact h
    | some S =>
      rw [hc] at h hS
      simp only at h
      rw [if_pos (by rcases hS with h | h; cases h; exact h)] at h
      exact h
end Go.Proofs.Ytheafmjdncmpoaa
