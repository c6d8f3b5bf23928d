/-
  Quorum: a slice of calls that came in, opened.
-/
import Derived.Test.YtheafmjdncmpoaaProg
import Derived.Test.YtheafmjdncmpoaaRows
import Derived.Test.YtheafmjdncmpoaaWMore
import Derived.Deep.Slices
import Derived.ChangeSame
import Derived.Deep.Strs
import Derived.WalkKit
namespace Go.Proofs.Ytheafmjdncmpoaa
set_option linter.unusedSimpArgs false
set_option linter.unusedVariables false
open Go.RowKit Go.Proofs.YtheafmjdncmpoaaW.PrintWords Go.Proofs.YtheafmjdncmpoaaW.PrintMore Go.Deep

/-- a call: does it lose, its slot, its node -/
structure Act3 where
  o : Bool
  s : Int
  n : Int
def zA : Act3 := ⟨false, 0, 0⟩
/-- a slice of calls that came in -/
def IsActs (w : World) (a : Option Addr) (len cap : Nat) (xs : List Act3) : Prop :=
  xs.length = len ∧ len ≤ 9223372036854775807 ∧ ∀ i, i < len → ∃ ad, a = some ad ∧ w.cell? (ad.add (i * 3)) = some (.bool (xs.getD i zA).o) ∧ w.cell? (ad.add (i * 3 + 1)) = some (.int .i64 (xs.getD i zA).s) ∧ w.cell? (ad.add (i * 3 + 2)) = some (.int .i64 (xs.getD i zA).n)
theorem IsActs.below {w w1 : World} {a : Option Addr} {len cap : Nat} {xs : List Act3} (h : IsActs w a len cap xs) (hb : Below w.heap.size w w1) : IsActs w1 a len cap xs :=
  ⟨h.1, h.2.1, fun i hi => by
    obtain ⟨ad, e, h0, h1, h2⟩ := h.2.2 i hi
    exact ⟨ad, e, pw_cell_below hb h0, pw_cell_below hb h1, pw_cell_below hb h2⟩⟩
theorem three_of {l : List Value} (h : l.length = 3) : ∃ a b c, l = [a, b, c] := by
  match l, h with
  | [a, b, c], _ => exact ⟨a, b, c, rfl⟩
theorem open_acts {H : Type} {enc : TypeId × Value → H} {w : World} {base : Nat} {spare : Nat → Bool} {held : Bool} {t : TypeId} {fuel : Nat} {a : Option Addr} {len cap : Nat} {x : DataW H × List MemPlace} (ht : Try.prog.underlying t = some (.slice 52))
    (h : DataW.trod enc Try.prog w base spare held fuel t [.slice a len cap] = some x) : ∃ xs : List Act3, IsActs w a len cap xs := by
  rcases open_slice ht h with ⟨h0, _⟩ | ⟨ad, len', cap', m, n, D, Pl, e, hb, hl, hm, hmm, rfl, hx⟩
  · simp only [List.cons.injEq, Value.slice.injEq, and_true] at h0
    obtain ⟨rfl, rfl, rfl⟩ := h0
    exact ⟨[], rfl, by omega, fun i h => absurd h (by omega)⟩
  · simp only [List.cons.injEq, Value.slice.injEq, and_true] at e
    obtain ⟨rfl, rfl, rfl⟩ := e
    have hlm : len ≤ m := by rw [hmm]; split <;> omega
    have c52 : Try.prog.cellsOf 52 = 3 := by kernel_rfl
    have c3 : Try.prog.cellsOf 3 = 1 := by kernel_rfl
    have c4 : Try.prog.cellsOf 4 = 1 := by kernel_rfl
    have each : ∀ i, i < len → ∃ q : Act3, w.cell? (ad.add (i * 3)) = some (.bool q.o) ∧ w.cell? (ad.add (i * 3 + 1)) = some (.int .i64 q.s) ∧ w.cell? (ad.add (i * 3 + 2)) = some (.int .i64 q.n) := by
      intro i hi
      obtain ⟨cs', h1, h2⟩ := hx i (by omega)
      rw [c52] at h1
      obtain ⟨_, hlen, hcell⟩ := World.cells?_some h1
      obtain ⟨y0, y1, y2, n', hxy, _, g0, g1, g2⟩ := trod_struct3 Try.underlying52 h2
      obtain ⟨v0, v1, v2, rfl⟩ := three_of hlen
      clear hlen
      simp [c3, c4] at g0 g1 g2
      obtain ⟨x0, e0, _⟩ := DataW.trod_bool Try.underlying4 g0
      obtain ⟨x1, e1, _, _⟩ := DataW.trod_int Try.underlying3 g1
      obtain ⟨x2, e2, _, _⟩ := DataW.trod_int Try.underlying3 g2
      simp only [List.cons.injEq, and_true] at e0 e1 e2
      subst e0 e1 e2
      have k0 := hcell 0 (by omega)
      have k1 := hcell 1 (by omega)
      have k2 := hcell 2 (by omega)
      rw [Deep.add_add] at k0 k1 k2
      exact ⟨⟨x0, x1, x2⟩, by simpa using k0, by simpa using k1, by simpa using k2⟩
    haveI : Inhabited Act3 := ⟨zA⟩
    obtain ⟨X, hX⟩ := choose_lt each
    have hlen : ((List.range len).map X).length = len := by simp
    refine ⟨(List.range len).map X, hlen, by simp only [maxLen] at hm; omega, fun j hj => ⟨ad, rfl, ?_⟩⟩
    have : ((List.range len).map X).getD j zA = X j := by
      rw [List.getD_eq_getElem?_getD, List.getElem?_map, List.getElem?_range hj]; rfl
    rw [this]
    exact hX j hj
end Go.Proofs.Ytheafmjdncmpoaa
