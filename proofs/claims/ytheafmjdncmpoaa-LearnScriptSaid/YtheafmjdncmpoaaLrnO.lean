/-
  Learn: a word, and a slice of words, that came in, opened.
-/
import Derived.Test.YtheafmjdncmpoaaLrnX
import Derived.Test.YtheafmjdncmpoaaRows
import Derived.Deep.Slices
import Derived.Deep.Strs
import Derived.ChangeSame
import Derived.ChangeSlices
namespace Go.Proofs.Ytheafmjdncmpoaa
set_option linter.unusedSimpArgs false
set_option linter.unusedVariables false
open Go.RowKit Go.Proofs.YtheafmjdncmpoaaW.PrintWords Go.Proofs.YtheafmjdncmpoaaW.PrintMore Go.Deep Go.ChangeShapes Go.WideShapes

/-- a word -/
structure Wd where
  t : Bool
  k : Int
  n : Int
  d : Int
  x : List Int
def Wd.cells (q : Wd) (A : Option Addr) (c : Nat) : List Value := [.bool q.t, .int .i64 q.k, .int .i64 q.n, .int .i64 q.d, .slice A q.x.length c]
theorem trod_bytes {H : Type} {enc : TypeId × Value → H} {w : World} {base : Nat} {spare : Nat → Bool} {held : Bool} {fuel : Nat} {cs : List Value} {x : DataW H × List MemPlace} (h : DataW.trod enc Try.prog w base spare held fuel 69 cs = some x) :
    ∃ A c l, cs = [.slice A l.length c] ∧ Given w A c l := by
  rcases open_ints Try.underlying69 Try.underlying5 (by kernel_rfl) h with ⟨rfl, _⟩ | ⟨a, len, cap, zs, rfl, _, hl, hm, hz, _, hc, _⟩
  · exact ⟨none, 0, [], rfl, ⟨⟨rfl, by simp, fun h => absurd h (by simp)⟩, Nat.le_refl _⟩, fun _ => rfl⟩
  · unfold maxLen at hm
    have hzl : len ≤ zs.length := by rw [hz]; split <;> omega
    have hlen : (zs.take len).length = len := by rw [List.length_take]; omega
    refine ⟨some a, cap, zs.take len, by rw [hlen], ⟨?_, by omega⟩, fun e => by cases e⟩
    refine C_mkB (by rw [hlen]; omega) fun i hi => ?_
    rw [hlen] at hi
    rw [hc i (by omega), List.getD_eq_getElem?_getD, List.getD_eq_getElem?_getD, List.getElem?_take_of_lt hi]
theorem five_of {l : List Value} (h : l.length = 5) : ∃ a b c d e, l = [a, b, c, d, e] := by
  match l, h with
  | [a, b, c, d, e], _ => exact ⟨a, b, c, d, e, rfl⟩
theorem two_of {l : List Value} (h : l.length = 2) : ∃ a b, l = [a, b] := by
  match l, h with
  | [a, b], _ => exact ⟨a, b, rfl⟩
theorem trod_word {H : Type} {enc : TypeId × Value → H} {w : World} {base : Nat} {spare : Nat → Bool} {held : Bool} {fuel : Nat} {cs : List Value} {x : DataW H × List MemPlace} (h : DataW.trod enc Try.prog w base spare held fuel 86 cs = some x) :
    ∃ (q : Wd) (A : Option Addr) (c : Nat), cs = q.cells A c ∧ Given w A c q.x := by
  obtain ⟨xs, n, _, _, hlen, hxl, hf⟩ := DataW.trod_struct Try.underlying86 h
  rw [show Try.prog.cellsOf 86 = 5 by kernel_rfl] at hlen
  obtain ⟨v0, v1, v2, v3, v4, rfl⟩ := five_of hlen
  have c4 : Try.prog.cellsOf 4 = 1 := by kernel_rfl
  have c3 : Try.prog.cellsOf 3 = 1 := by kernel_rfl
  have c23 : Try.prog.cellsOf 23 = 2 := by kernel_rfl
  have c69 : Try.prog.cellsOf 69 = 1 := by kernel_rfl
  obtain ⟨y0, e0⟩ : ∃ y, xs[0]? = some y := ⟨_, List.getElem?_eq_getElem (by rw [hxl]; decide)⟩
  obtain ⟨y1, e1⟩ : ∃ y, xs[1]? = some y := ⟨_, List.getElem?_eq_getElem (by rw [hxl]; decide)⟩
  obtain ⟨y2, e2⟩ : ∃ y, xs[2]? = some y := ⟨_, List.getElem?_eq_getElem (by rw [hxl]; decide)⟩
  obtain ⟨y3, e3⟩ : ∃ y, xs[3]? = some y := ⟨_, List.getElem?_eq_getElem (by rw [hxl]; decide)⟩
  have h0 : DataW.trod enc Try.prog w base spare held n 4 [v0] = some y0 := by have := hf 0 _ rfl; rw [e0] at this; simpa [c4] using this
  have h1 : DataW.trod enc Try.prog w base spare held n 3 [v1] = some y1 := by have := hf 1 _ rfl; rw [e1] at this; simpa [c3] using this
  have h2 : DataW.trod enc Try.prog w base spare held n 23 [v2, v3] = some y2 := by have := hf 2 _ rfl; rw [e2] at this; simpa [c23] using this
  have h3 : DataW.trod enc Try.prog w base spare held n 69 [v4] = some y3 := by have := hf 3 _ rfl; rw [e3] at this; simpa [c69] using this
  clear hf
  obtain ⟨b0, k0, _⟩ := DataW.trod_bool Try.underlying4 h0
  obtain ⟨b1, k1, _, _⟩ := DataW.trod_int Try.underlying3 h1
  obtain ⟨z0, z1, n', _, _, g0, g1⟩ := Go.ChangeShapes.trod_struct2 Try.underlying23 h2
  simp [c3] at g0 g1
  obtain ⟨b2, k2, _, _⟩ := DataW.trod_int Try.underlying3 g0
  obtain ⟨b3, k3, _, _⟩ := DataW.trod_int Try.underlying3 g1
  obtain ⟨A, c, l, k4, hg⟩ := trod_bytes h3
  simp only [List.cons.injEq, and_true] at k0 k1 k2 k3 k4
  subst k0 k1 k2 k3 k4
  exact ⟨⟨b0, b1, b2, b3, l⟩, A, c, rfl, hg⟩
set_option maxRecDepth 100000 in
/-- a word handed in by value -/
theorem open_word {H : Type} {enc : TypeId × Value → H} {w : World} {base : Nat} {spare : Nat → Bool} {held : Bool} {r : Reach} {b0 : Nat} {v : Value} {d : DataW H} {p : List MemPlace} (hv : Value.okWide Try.prog w r b0 86 v) (h : DataW.Trod enc Try.prog w base spare held 86 v d p) :
    ∃ (q : Wd) (A : Option Addr) (c : Nat), v = .agg (q.cells A c).toArray ∧ Given w A c q.x := by
  obtain ⟨cs, rfl, hsz⟩ := okWide_struct Try.underlying86 hv
  obtain ⟨fuel, hf⟩ := h
  obtain ⟨q, A, c, e, hg⟩ := trod_word hf
  refine ⟨q, A, c, ?_, hg⟩
  congr 1
  apply Array.ext'
  simpa [Value.cells] using e
/-- a slice of words that came in -/
def IsWords (w : World) (a : Option Addr) (len cap : Nat) (xs : List Wd) : Prop :=
  xs.length = len ∧ len ≤ cap ∧ len ≤ 9223372036854775807 ∧ ∀ i, i < len → ∃ ad A c, a = some ad ∧ (∀ j u, ((xs.getD i ⟨false, 0, 0, 0, []⟩).cells A c)[j]? = some u → w.cell? (ad.add (i * 5 + j)) = some u) ∧ Given w A c (xs.getD i ⟨false, 0, 0, 0, []⟩).x
theorem IsWords.below {w w1 : World} {a : Option Addr} {len cap : Nat} {xs : List Wd} (h : IsWords w a len cap xs) (hb : Below w.heap.size w w1) : IsWords w1 a len cap xs :=
  ⟨h.1, h.2.1, h.2.2.1, fun i hi => by
    obtain ⟨ad, A, c, e, h1, h2⟩ := h.2.2.2 i hi
    exact ⟨ad, A, c, e, fun j u hu => pw_cell_below hb (h1 j u hu), h2.below hb⟩⟩
theorem open_words {H : Type} {enc : TypeId × Value → H} {w : World} {base : Nat} {spare : Nat → Bool} {held : Bool} {t : TypeId} {fuel : Nat} {a : Option Addr} {len cap : Nat} {x : DataW H × List MemPlace} (ht : Try.prog.underlying t = some (.slice 86))
    (h : DataW.trod enc Try.prog w base spare held fuel t [.slice a len cap] = some x) : ∃ xs : List Wd, IsWords w a len cap xs := by
  rcases open_slice ht h with ⟨h0, _⟩ | ⟨ad, len', cap', m, n, D, Pl, e, hb, hl, hm, hmm, rfl, hx⟩
  · simp only [List.cons.injEq, Value.slice.injEq, and_true] at h0
    obtain ⟨rfl, rfl, rfl⟩ := h0
    exact ⟨[], rfl, by omega, by omega, fun i h => absurd h (by omega)⟩
  · simp only [List.cons.injEq, Value.slice.injEq, and_true] at e
    obtain ⟨rfl, rfl, rfl⟩ := e
    have hlm : len ≤ m := by rw [hmm]; split <;> omega
    have c86 : Try.prog.cellsOf 86 = 5 := by kernel_rfl
    have each : ∀ i, i < len → ∃ q : Wd, ∃ A c, (∀ j u, (q.cells A c)[j]? = some u → w.cell? (ad.add (i * 5 + j)) = some u) ∧ Given w A c q.x := by
      intro i hi
      obtain ⟨cs', h1, h2⟩ := hx i (by omega)
      rw [c86] at h1
      obtain ⟨_, hlen, hcell⟩ := World.cells?_some h1
      obtain ⟨q, A, c, rfl, hg⟩ := trod_word h2
      refine ⟨q, A, c, fun j u hu => ?_, hg⟩
      have hj : j < 5 := by have := (List.getElem?_eq_some_iff.1 hu).1; simpa [Wd.cells] using this
      have := hcell j (by omega)
      rw [Deep.add_add] at this
      rw [this]
      exact hu
    haveI : Inhabited Wd := ⟨⟨false, 0, 0, 0, []⟩⟩
    obtain ⟨X, hX⟩ := choose_lt each
    have hlen : ((List.range len).map X).length = len := by simp
    refine ⟨(List.range len).map X, hlen, hl, by simp only [maxLen] at hm; omega, fun j hj => ?_⟩
    have hg : ((List.range len).map X).getD j ⟨false, 0, 0, 0, []⟩ = X j := by
      rw [List.getD_eq_getElem?_getD, List.getElem?_map, List.getElem?_range hj]; rfl
    rw [hg]
    obtain ⟨A, c, h1, h2⟩ := hX j hj
    exact ⟨ad, A, c, rfl, h1, h2⟩
end Go.Proofs.Ytheafmjdncmpoaa
