/-
  MemberOne, walked and answered; a slice of words that came in, opened.
-/
import Derived.Test.YtakcidegacikoaaMemOneP
import Derived.Test.YtakcidegacikoaaRows
import Derived.Deep.Slices
import Derived.Deep.Strs
namespace Go.Proofs.Ytakcidegacikoaa
set_option linter.unusedSimpArgs false
open Go.RowKit Go.Deep Go.Proofs.Ytakcidegacikoaa.PMemberOne Go.Proofs.YtakcidegacikoaaW.PrintWords

/-- a slice of integers that came in: nil, or a row of 'cap' cells, the numbers 'zs' -/
def IsRow (k : IntKind) (w : World) (a : Option Addr) (len cap : Nat) (zs : List Int) : Prop :=
  (a = none ∧ len = 0 ∧ cap = 0 ∧ zs = []) ∨
  ∃ x, a = some x ∧ len ≤ cap ∧ cap ≤ maxLen ∧ zs.length = cap ∧ (∀ i, i < zs.length → w.cell? (x.add i) = some (.int k (zs.getD i 0))) ∧ ∀ n ∈ zs, (Lit.int k n).wf = true
/-- a slice of words that came in -/
def IsMem (w : World) (a : Option Addr) (len cap : Nat) (xs : List S24) : Prop := Kd.C k24 w a len xs ∧ len ≤ cap ∧ xs.length = len
theorem isRow_C {w : World} {a : Option Addr} {len cap : Nat} {zs : List Int} (h : IsRow .i64 w a len cap zs) : ∃ l : List Int, l.length = len ∧ Kd.C (Kd.int .i64) w a len l ∧ len ≤ cap := by
  rcases h with ⟨rfl, rfl, rfl, rfl⟩ | ⟨x, rfl, hl, hm, hz, hcell, _⟩
  · exact ⟨[], rfl, ⟨rfl, by omega, fun h => absurd h (by omega)⟩, Nat.le_refl _⟩
  · have hlen : (zs.take len).length = len := by rw [List.length_take]; omega
    refine ⟨zs.take len, hlen, ⟨hlen, by simp only [maxLen] at hm; omega, fun _ => ⟨x, rfl, fun j p hp => ⟨[.int .i64 p], rfl, rfl, fun i u hu => ?_⟩⟩⟩, hl⟩
    have hj : j < len := by
      have := (List.getElem?_eq_some_iff.1 hp).1
      omega
    have hi : i = 0 := by
      have := (List.getElem?_eq_some_iff.1 hu).1
      simp at this; exact this
    subst hi
    have hpz : zs.getD j 0 = p := by
      rw [List.getElem?_take_of_lt hj] at hp
      rw [List.getD_eq_getElem?_getD, hp]; rfl
    have := hcell j (by omega)
    rw [hpz] at this
    simp only [List.getElem?_cons_zero, Option.some.injEq] at hu
    subst hu
    exact (show x.add (j * 1 + 0) = x.add j by rw [Nat.mul_one, Nat.add_zero]) ▸ this
theorem open_members {H : Type} {enc : TypeId × Value → H} {w : World} {base : Nat} {spare : Nat → Bool} {held : Bool} {t : TypeId} {fuel : Nat} {a : Option Addr} {len cap : Nat} {x : DataW H × List MemPlace} (ht : Try.prog.underlying t = some (.slice 24))
    (h : DataW.trod enc Try.prog w base spare held fuel t [.slice a len cap] = some x) : ∃ xs : List S24, IsMem w a len cap xs := by
  rcases open_slice ht h with ⟨h0, _⟩ | ⟨ad, len', cap', m, n, D, Pl, e, hb, hl, hm, hmm, rfl, hx⟩
  · simp only [List.cons.injEq, Value.slice.injEq, and_true] at h0
    obtain ⟨rfl, rfl, rfl⟩ := h0
    exact ⟨[], ⟨rfl, by omega, fun h => absurd h (by omega)⟩, Nat.le_refl _, rfl⟩
  · simp only [List.cons.injEq, Value.slice.injEq, and_true] at e
    obtain ⟨rfl, rfl, rfl⟩ := e
    have hlm : len ≤ m := by rw [hmm]; split <;> omega
    have c24 : Try.prog.cellsOf 24 = 3 := by kernel_rfl
    have c3 : Try.prog.cellsOf 3 = 1 := by kernel_rfl
    have each : ∀ i, i < len → ∃ q : S24, w.cell? (ad.add (i * 3)) = some (.int .i64 q.f0) ∧ w.cell? (ad.add (i * 3 + 1)) = some (.int .i64 q.f1) ∧ w.cell? (ad.add (i * 3 + 2)) = some (.int .i64 q.f2) := by
      intro i hi
      obtain ⟨cs', h1, h2⟩ := hx i (by omega)
      rw [c24] at h1
      obtain ⟨_, hlen, hcell⟩ := World.cells?_some h1
      obtain ⟨y0, y1, y2, n', hxy, _, g0, g1, g2⟩ := trod_struct3 Try.underlying24 h2
      match cs', hlen with
      | [v0, v1, v2], _ =>
        simp [c3] at g0 g1 g2
        obtain ⟨x0, e0, _, _⟩ := DataW.trod_int Try.underlying3 g0
        obtain ⟨x1, e1, _, _⟩ := DataW.trod_int Try.underlying3 g1
        obtain ⟨x2, e2, _, _⟩ := DataW.trod_int Try.underlying3 g2
        simp only [List.cons.injEq, and_true] at e0 e1 e2
        subst e0 e1 e2
        have k0 := hcell 0 (by omega)
        have k1 := hcell 1 (by omega)
        have k2 := hcell 2 (by omega)
        rw [Deep.add_add] at k0 k1 k2
        exact ⟨⟨x0, x1, x2⟩, by simpa using k0, by simpa using k1, by simpa using k2⟩
    haveI : Inhabited S24 := ⟨z24⟩
    obtain ⟨X, hX⟩ := choose_lt each
    have hlen : ((List.range len).map X).length = len := by simp
    refine ⟨(List.range len).map X, ⟨hlen, by simp only [maxLen] at hm; omega, fun _ => ⟨ad, rfl, fun j p hp => ?_⟩⟩, hl, hlen⟩
    have hj : j < len := by
      have := (List.getElem?_eq_some_iff.1 hp).1
      omega
    have hpX : X j = p := by simpa [hj] using hp
    subst hpX
    refine ⟨_, rfl, k24_mk w (X j), fun i u hu => ?_⟩
    have hi : i < 3 := by
      have := (List.getElem?_eq_some_iff.1 hu).1
      simpa using this
    match i, hi with
    | 0, _ => simp at hu; subst hu; exact (hX j hj).1
    | 1, _ => simp at hu; subst hu; exact (hX j hj).2.1
    | 2, _ => simp at hu; subst hu; exact (hX j hj).2.2
theorem memberOne_walk (a : Option Addr) (len cap : Nat) (xs : List S24) (b : Option Addr) (len1 cap1 : Nat) (zs : List Int) (w : World) (h0 : IsMem w a len cap xs) (h1 : IsRow .i64 w b len1 cap1 zs) :
    Calls Try.prog 4 #[.slice a len cap, .slice b len1 cap1] w fun e w' => e = .returned (.bool true) ∧ Below w.heap.size w w' := by
  obtain ⟨hc, hl, rfl⟩ := h0
  obtain ⟨l, rfl, hc1, hl1⟩ := isRow_C h1
  exact chartularylaw11_MemberOne.calls 451 a cap xs b cap1 l true w hc hl hc1 hl1 (memberOne_plain 450 (Nat.le_refl _) xs l)
end Go.Proofs.Ytakcidegacikoaa
