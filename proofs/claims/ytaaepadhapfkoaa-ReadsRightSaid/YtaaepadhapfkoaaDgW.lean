/-
  Digest: an id that came in, opened.
-/
import Derived.Test.YtaaepadhapfkoaaDgB
import Derived.OpenShut
import Derived.Lib.SmallJoins
namespace Go.Proofs.Ytaaepadhapfkoaa
set_option linter.unusedSimpArgs false
set_option linter.unusedVariables false
open Go.ChangeShapes Go.WideShapes Go.ChangeAt Go.RowKit Go.Joins

theorem cells_back : ∀ (cs : List Value), (∀ i, i < cs.length → ∃ n : Int, cs[i]? = some (.int .u8 n) ∧ 0 ≤ n ∧ n ≤ 255) → ∃ l : List Nat, cs = cellsOf l ∧ ∀ x ∈ l, x < 256
  | [], _ => ⟨[], rfl, by simp⟩
  | c :: cs, h => by
    obtain ⟨l, e, hl⟩ := cells_back cs (fun i hi => by simpa using h (i + 1) (by simp; omega))
    obtain ⟨n, hn, h0, h1⟩ := h 0 (by simp)
    simp at hn
    subst hn
    refine ⟨n.toNat :: l, ?_, ?_⟩
    · rw [e]
      show _ = Value.int .u8 ((n.toNat : Nat) : Int) :: cellsOf l
      rw [Int.toNat_of_nonneg h0]
    · intro x hx
      rcases List.mem_cons.1 hx with rfl | hx
      · omega
      · exact hl x hx
set_option maxRecDepth 100000 in
theorem trod_id {H : Type} {enc : TypeId × Value → H} {w : World} {base : Nat} {spare : Nat → Bool} {held : Bool} {fuel : Nat} {cs : List Value} {x : DataW H × List MemPlace} (h : DataW.trod enc Try.prog w base spare held fuel 23 cs = some x) :
    ∃ l : List Nat, cs = cellsOf l ∧ l.length = 32 ∧ ∀ x ∈ l, x < 256 := by
  obtain ⟨xs, n, _, _, hlen, hxl, hf⟩ := DataW.trod_array Try.underlying23 h
  rw [show Try.prog.cellsOf 23 = 32 by kernel_rfl] at hlen
  have c5 : Try.prog.cellsOf 5 = 1 := by kernel_rfl
  have hc : ∀ i, i < cs.length → ∃ n : Int, cs[i]? = some (.int .u8 n) ∧ 0 ≤ n ∧ n ≤ 255 := by
    intro i hi
    have hi' : i < 32 := by omega
    obtain ⟨y, ey⟩ : ∃ y, xs[i]? = some y := ⟨_, List.getElem?_eq_getElem (by rw [hxl]; omega)⟩
    have h1 : (cs.drop (i * 1)).take 1 = [cs[i]] := by
      rw [Nat.mul_one, List.drop_eq_getElem_cons hi]; rfl
    have h0 : DataW.trod enc Try.prog w base spare held n 5 [cs[i]] = some y := by
      have := hf i hi'; rw [ey, c5, h1] at this; exact this
    obtain ⟨a, e, _, hw⟩ := DataW.trod_int Try.underlying5 h0
    simp at e
    exact ⟨a, by rw [List.getElem?_eq_getElem hi, e], bounds_u8 hw⟩
  obtain ⟨l, e, hl⟩ := cells_back cs hc
  subst e
  exact ⟨l, rfl, by rwa [cellsOf_length] at hlen, hl⟩
set_option maxRecDepth 100000 in
theorem open_id {H : Type} {enc : TypeId × Value → H} {w : World} {base : Nat} {spare : Nat → Bool} {held : Bool} {r : Reach} {b0 : Nat} {v : Value} {d : DataW H} {p : List MemPlace} (hv : Value.okWide Try.prog w r b0 23 v) (h : DataW.Trod enc Try.prog w base spare held 23 v d p) :
    ∃ l : List Nat, v = .agg (cellsOf l).toArray ∧ l.length = 32 ∧ ∀ x ∈ l, x < 256 := by
  simp only [Value.okWide, Try.underlying23] at hv
  obtain ⟨cs, rfl, hsz, _⟩ := hv
  obtain ⟨fuel, hf⟩ := h
  obtain ⟨l, e, h1, h2⟩ := trod_id hf
  refine ⟨l, ?_, h1, h2⟩
  congr 1
  apply Array.ext'
  simpa [Value.cells] using e
end Go.Proofs.Ytaaepadhapfkoaa
