/-
  A slice of ballots that came in, opened.
-/
import Derived.Test.YtheafmjdncmpoaaPBallotTellsx0
import Derived.Test.YtheafmjdncmpoaaRows
import Derived.Deep.Slices
import Derived.ChangeSame
namespace Go.Proofs.Ytheafmjdncmpoaa
set_option linter.unusedSimpArgs false
set_option linter.unusedVariables false
open Go.RowKit Go.Proofs.Ytheafmjdncmpoaa.PBallotTells Go.Proofs.YtheafmjdncmpoaaW.PrintWords Go.Proofs.YtheafmjdncmpoaaW.PrintMore Go.Deep

/-- a slice of ballots that came in -/
def IsBal (w : World) (a : Option Addr) (len cap : Nat) (xs : List S23) : Prop := Kd.C k23 w a len xs ∧ len ≤ cap ∧ xs.length = len
theorem two_of {l : List Value} (h : l.length = 2) : ∃ a b, l = [a, b] := by
  match l, h with
  | [a, b], _ => exact ⟨a, b, rfl⟩
theorem open_ballots {H : Type} {enc : TypeId × Value → H} {w : World} {base : Nat} {spare : Nat → Bool} {held : Bool} {t : TypeId} {fuel : Nat} {a : Option Addr} {len cap : Nat} {x : DataW H × List MemPlace} (ht : Try.prog.underlying t = some (.slice 23))
    (h : DataW.trod enc Try.prog w base spare held fuel t [.slice a len cap] = some x) : ∃ xs : List S23, IsBal w a len cap xs := by
  rcases open_slice ht h with ⟨h0, _⟩ | ⟨ad, len', cap', m, n, D, Pl, e, hb, hl, hm, hmm, rfl, hx⟩
  · simp only [List.cons.injEq, Value.slice.injEq, and_true] at h0
    obtain ⟨rfl, rfl, rfl⟩ := h0
    exact ⟨[], ⟨rfl, by omega, fun h => absurd h (by omega)⟩, Nat.le_refl _, rfl⟩
  · simp only [List.cons.injEq, Value.slice.injEq, and_true] at e
    obtain ⟨rfl, rfl, rfl⟩ := e
    have hlm : len ≤ m := by rw [hmm]; split <;> omega
    have c23 : Try.prog.cellsOf 23 = 2 := by kernel_rfl
    have c3 : Try.prog.cellsOf 3 = 1 := by kernel_rfl
    have each : ∀ i, i < len → ∃ q : S23, w.cell? (ad.add (i * 2)) = some (.int .i64 q.f0) ∧ w.cell? (ad.add (i * 2 + 1)) = some (.int .i64 q.f1) := by
      intro i hi
      obtain ⟨cs', h1, h2⟩ := hx i (by omega)
      rw [c23] at h1
      obtain ⟨_, hlen, hcell⟩ := World.cells?_some h1
      obtain ⟨y0, y1, n', hxy, _, g0, g1⟩ := Go.ChangeShapes.trod_struct2 Try.underlying23 h2
      obtain ⟨v0, v1, rfl⟩ := two_of hlen
      · clear hlen
        simp [c3] at g0 g1
        obtain ⟨x0, e0, _, _⟩ := DataW.trod_int Try.underlying3 g0
        obtain ⟨x1, e1, _, _⟩ := DataW.trod_int Try.underlying3 g1
        simp only [List.cons.injEq, and_true] at e0 e1
        subst e0 e1
        have k0 := hcell 0 (by omega)
        have k1 := hcell 1 (by omega)
        rw [Deep.add_add] at k0 k1
        exact ⟨⟨x0, x1⟩, by simpa using k0, by simpa using k1⟩
    haveI : Inhabited S23 := ⟨z23⟩
    obtain ⟨X, hX⟩ := choose_lt each
    have hlen : ((List.range len).map X).length = len := by simp
    refine ⟨(List.range len).map X, ⟨hlen, by simp only [maxLen] at hm; omega, fun _ => ⟨ad, rfl, fun j p hp => ?_⟩⟩, hl, hlen⟩
    have hj : j < len := by
      have := (List.getElem?_eq_some_iff.1 hp).1
      omega
    have hpX : X j = p := by simpa [hj] using hp
    subst hpX
    refine ⟨_, rfl, k23_mk w (X j), fun i u hu => ?_⟩
    have hi : i < 2 := by
      have := (List.getElem?_eq_some_iff.1 hu).1
      simpa using this
    match i, hi with
    | 0, _ => simp at hu; subst hu; exact (hX j hj).1
    | 1, _ => simp at hu; subst hu; exact (hX j hj).2
end Go.Proofs.Ytheafmjdncmpoaa
