/-
  A slice of ints that came in: nil, or a row.
-/
import Derived.Test.YtheafmjdncmpoaaProg
import Derived.Test.YtheafmjdncmpoaaWMore
namespace Go.Proofs.Ytheafmjdncmpoaa
set_option linter.unusedSimpArgs false
open Go.RowKit Go.Proofs.YtheafmjdncmpoaaW.PrintWords

/-- a slice of integers that came in: nil, or a row of 'cap' cells, the numbers 'zs' -/
def IsRow (k : IntKind) (w : World) (a : Option Addr) (len cap : Nat) (zs : List Int) : Prop :=
  (a = none ∧ len = 0 ∧ cap = 0 ∧ zs = []) ∨
  ∃ x, a = some x ∧ len ≤ cap ∧ cap ≤ maxLen ∧ zs.length = cap ∧ (∀ i, i < zs.length → w.cell? (x.add i) = some (.int k (zs.getD i 0))) ∧ ∀ n ∈ zs, (Lit.int k n).wf = true
theorem isRow_C {w : World} {a : Option Addr} {len cap : Nat} {zs : List Int} (h : IsRow .i64 w a len cap zs) : ∃ l : List Int, l.length = len ∧ Kd.C (Kd.int .i64) w a len l ∧ len ≤ cap := by
  rcases h with ⟨rfl, rfl, rfl, rfl⟩ | ⟨x, rfl, hl, hm, hz, hcell, _⟩
  · exact ⟨[], rfl, ⟨rfl, by omega, fun h => absurd h (by omega)⟩, Nat.le_refl _⟩
  · have hlen : (zs.take len).length = len := by rw [List.length_take]; omega
    refine ⟨zs.take len, hlen, ⟨hlen, by simp only [maxLen] at hm; omega, fun _ => ⟨x, rfl, fun j p hp => ⟨[.int .i64 p], rfl, rfl, fun i u hu => ?_⟩⟩⟩, hl⟩
    have hj : j < len := by
      have := (List.getElem?_eq_some_iff.1 hp).1
      omega
    have hi : i = 0 := by
      have := (List.getElem?_eq_some_iff.1 hu).1
      simp at this; exact this
    subst hi
    have hpz : zs.getD j 0 = p := by
      rw [List.getElem?_take_of_lt hj] at hp
      rw [List.getD_eq_getElem?_getD, hp]; rfl
    have := hcell j (by omega)
    rw [hpz] at this
    simp only [List.getElem?_cons_zero, Option.some.injEq] at hu
    subst hu
    exact (show x.add (j * 1 + 0) = x.add j by rw [Nat.mul_one, Nat.add_zero]) ▸ this
end Go.Proofs.Ytheafmjdncmpoaa
