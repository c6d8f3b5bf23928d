/-
  Rank: ints that came in.
-/
import Derived.Test.YtaaepadhapfkoaaRkC
import Derived.OpenShut
namespace Go.Proofs.Ytaaepadhapfkoaa
set_option linter.unusedSimpArgs false
set_option linter.unusedVariables false
open Go.RowKit

/-- a slice of ints that came in -/
def IsRow (k : IntKind) (w : World) (a : Option Addr) (len cap : Nat) (zs : List Int) : Prop :=
  (a = none ∧ len = 0 ∧ cap = 0 ∧ zs = []) ∨
  ∃ x, a = some x ∧ len ≤ cap ∧ cap ≤ maxLen ∧ zs.length = cap ∧ (∀ i, i < zs.length → w.cell? (x.add i) = some (.int k (zs.getD i 0))) ∧ ∀ n ∈ zs, (Lit.int k n).wf = true
theorem isRow_I {w : World} {a : Option Addr} {len cap : Nat} {zs : List Int} (h : IsRow .i64 w a len cap zs) : ∃ l : List Int, l.length = len ∧ RdI w a l ∧ l.length ≤ 9223372036854775807 := by
  rcases h with ⟨rfl, rfl, rfl, rfl⟩ | ⟨x, rfl, hl, hm, hz, hcell, _⟩
  · exact ⟨[], rfl, RdI.nil _ _, by decide⟩
  · refine ⟨zs.take len, by rw [List.length_take]; omega, ?_, by rw [List.length_take]; unfold maxLen at hm; omega⟩
    refine RdI.take (fun i hi => ?_) len
    obtain ⟨b, off, rfl, hc⟩ := ints_at hcell (by omega)
    have h1 := hc i hi
    refine ⟨b, off, rfl, ?_, h1⟩
    exact World.block_lt_of_cell? w ⟨b, off + i, none⟩ h1
end Go.Proofs.Ytaaepadhapfkoaa
