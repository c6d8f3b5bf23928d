/-
  Rank: RankSpots, with its arguments as they come.
-/
import Derived.Test.YtaaepadhapfkoaaRkX
import Derived.Test.YtaaepadhapfkoaaRkR
import Derived.Test.YtaaepadhapfkoaaDgW
namespace Go.Proofs.Ytaaepadhapfkoaa
open Go.RowKit
theorem rankSpots_walk (id : List Nat) (nodes copies : Int) (a : Option Addr) (len cap : Nat) (zs : List Int) (W : World) (hl : id.length = 32) (hb : ∀ c ∈ id, c < 256) (_ : (Lit.int .i64 nodes).wf = true) (_ : (Lit.int .i64 copies).wf = true) (h : IsRow .i64 W a len cap zs) :
    Calls Try.prog 8 #[.agg (cellsOf id).toArray, .int .i64 nodes, .int .i64 copies, .slice a len cap] W fun e w' => e = .returned (.bool true) ∧ Below W.heap.size W w' := by
  obtain ⟨l, rfl, hr, hll⟩ := isRow_I h
  exact spots17 id nodes copies l a cap W hl hb hr hll
end Go.Proofs.Ytaaepadhapfkoaa
