/-
  No cell of these rows narrows 'for every input' (looked for: loops, veiled, ifaces, maps, wideKeys, modest, calm, conditions, laid).
  DERIVED. THE GIVEN ROWS OF THIS SEAT. 10 by the template 'for every input the law returns true; each argument reads behind the call as it read before'; 0 by the template 'total and deterministic' (their statements: YtaaepadhapfkoaaTotals.lean).
  GIVEN WITH THE SEED: the statements are not yours to turn. If you find one false, say at which input.
  Laid BY PROGRAM, IN A SANDBOX (cutbox-rows.mjs): the forced cells as the released guide's own fill.sh prints them over the translation 6e493af6eff297c4… (all of the seat's roots in one cut). By AI agents, Wed Nov 11 2026. No macro, syntax, notation, axiom, sorry.
-/
import Derived.Test.YtaaepadhapfkoaaChecked
import GoSem.Claim
import GoSem.ClaimJoined
import GoSem.ClaimMapViews
import Derived.JoinedTies
import Derived.KernelRfl
namespace Go.Proofs.Ytaaepadhapfkoaa
/- THE CELL 'sum', in the pinned program and in every row, IS THE sha256 OF THE DUMP (.gsa) THAT YtaaepadhapfkoaaProg.lean LOADS. Nothing in Lean hashes anything: it is a label: what it is worth is what the hold of that sum in a sandbox is worth. -/
noncomputable def Try.pinned : Pinned := { name := "ytaaepadhapfkoaa", sum := "6e493af6eff297c46b6b3c51d8f522fd63fdb4eeb272c17ed80b0e9ac6028a66", checked := Try.checked }
namespace Rows
def none {H : Type} : Left H := { results := [], args := [] }

/-- 'chartularylaw01.DigestOrder': WHATEVER THE INPUT: true; the input reads as it did. -/
def digestOrderSpec : ChangeSpec := { name := "digestOrder", fn := fun _ => fun
  | [d1, d2, d3] => { results := [.lit (.bool true)], args := [d1, d2, d3] }
  | _ => none }
def digestOrderRow : OpenClaim := { program := "ytaaepadhapfkoaa", sum := "6e493af6eff297c46b6b3c51d8f522fd63fdb4eeb272c17ed80b0e9ac6028a66", func := "chartulary/chartularylaw01.DigestOrder", spec := "digestOrder", inPlace := ["internal/abi.NoEscape"], unfollowed := true, recurses := true, apart := false }
def DigestOrderSaid : Prop := digestOrderRow.holds Try.pinned (OpenSpec.ofChange digestOrderSpec)

/-- ITS FALSE NEIGHBOUR: 'it returns false'. Refute it at one input. -/
def digestOrderWrong : ChangeSpec := { name := "digestOrder", fn := fun _ => fun
  | [d1, d2, d3] => { results := [.lit (.bool false)], args := [d1, d2, d3] }
  | _ => none }
def DigestOrderWrongFalsely : Prop := digestOrderRow.holds Try.pinned (OpenSpec.ofChange digestOrderWrong)

/-- 'chartularylaw01.DigestTexts': WHATEVER THE INPUT: true; the input reads as it did. -/
def digestTextsSpec : ChangeSpec := { name := "digestTexts", fn := fun _ => fun
  | [d1, d2, d3] => { results := [.lit (.bool true)], args := [d1, d2, d3] }
  | _ => none }
def digestTextsRow : OpenClaim := { program := "ytaaepadhapfkoaa", sum := "6e493af6eff297c46b6b3c51d8f522fd63fdb4eeb272c17ed80b0e9ac6028a66", func := "chartulary/chartularylaw01.DigestTexts", spec := "digestTexts", inPlace := ["internal/abi.NoEscape"], unfollowed := true, recurses := true, apart := false }
def DigestTextsSaid : Prop := digestTextsRow.holds Try.pinned (OpenSpec.ofChange digestTextsSpec)

/-- ITS FALSE NEIGHBOUR: 'it returns false'. Refute it at one input. -/
def digestTextsWrong : ChangeSpec := { name := "digestTexts", fn := fun _ => fun
  | [d1, d2, d3] => { results := [.lit (.bool false)], args := [d1, d2, d3] }
  | _ => none }
def DigestTextsWrongFalsely : Prop := digestTextsRow.holds Try.pinned (OpenSpec.ofChange digestTextsWrong)

/-- 'chartularylaw17.RankPlaces': WHATEVER THE INPUT: true; the input reads as it did. -/
def rankPlacesSpec : ChangeSpec := { name := "rankPlaces", fn := fun _ => fun
  | [d1, d2, d3, d4, d5] => { results := [.lit (.bool true)], args := [d1, d2, d3, d4, d5] }
  | _ => none }
def rankPlacesRow : OpenClaim := { program := "ytaaepadhapfkoaa", sum := "6e493af6eff297c46b6b3c51d8f522fd63fdb4eeb272c17ed80b0e9ac6028a66", func := "chartulary/chartularylaw17.RankPlaces", spec := "rankPlaces", unfollowed := true, recurses := true, apart := false }
def RankPlacesSaid : Prop := rankPlacesRow.holds Try.pinned (OpenSpec.ofChange rankPlacesSpec)

/-- ITS FALSE NEIGHBOUR: 'it returns false'. Refute it at one input. -/
def rankPlacesWrong : ChangeSpec := { name := "rankPlaces", fn := fun _ => fun
  | [d1, d2, d3, d4, d5] => { results := [.lit (.bool false)], args := [d1, d2, d3, d4, d5] }
  | _ => none }
def RankPlacesWrongFalsely : Prop := rankPlacesRow.holds Try.pinned (OpenSpec.ofChange rankPlacesWrong)

/-- 'chartularylaw17.RankKnown': WHATEVER THE INPUT: true; the input reads as it did. -/
def rankKnownSpec : ChangeSpec := { name := "rankKnown", fn := fun _ => fun
  | [] => { results := [.lit (.bool true)], args := [] }
  | _ => none }
def rankKnownRow : OpenClaim := { program := "ytaaepadhapfkoaa", sum := "6e493af6eff297c46b6b3c51d8f522fd63fdb4eeb272c17ed80b0e9ac6028a66", func := "chartulary/chartularylaw17.RankKnown", spec := "rankKnown", unfollowed := true, recurses := true, apart := false }
def RankKnownSaid : Prop := rankKnownRow.holds Try.pinned (OpenSpec.ofChange rankKnownSpec)

/-- ITS FALSE NEIGHBOUR: 'it returns false'. Refute it at one input. -/
def rankKnownWrong : ChangeSpec := { name := "rankKnown", fn := fun _ => fun
  | [] => { results := [.lit (.bool false)], args := [] }
  | _ => none }
def RankKnownWrongFalsely : Prop := rankKnownRow.holds Try.pinned (OpenSpec.ofChange rankKnownWrong)

/-- 'chartularylaw17.RankWhole': WHATEVER THE INPUT: true; the input reads as it did. -/
def rankWholeSpec : ChangeSpec := { name := "rankWhole", fn := fun _ => fun
  | [d1, d2] => { results := [.lit (.bool true)], args := [d1, d2] }
  | _ => none }
def rankWholeRow : OpenClaim := { program := "ytaaepadhapfkoaa", sum := "6e493af6eff297c46b6b3c51d8f522fd63fdb4eeb272c17ed80b0e9ac6028a66", func := "chartulary/chartularylaw17.RankWhole", spec := "rankWhole", unfollowed := true, recurses := true, apart := false }
def RankWholeSaid : Prop := rankWholeRow.holds Try.pinned (OpenSpec.ofChange rankWholeSpec)

/-- ITS FALSE NEIGHBOUR: 'it returns false'. Refute it at one input. -/
def rankWholeWrong : ChangeSpec := { name := "rankWhole", fn := fun _ => fun
  | [d1, d2] => { results := [.lit (.bool false)], args := [d1, d2] }
  | _ => none }
def RankWholeWrongFalsely : Prop := rankWholeRow.holds Try.pinned (OpenSpec.ofChange rankWholeWrong)

/-- 'chartularylaw17.RankSpots': WHATEVER THE INPUT: true; the input reads as it did. -/
def rankSpotsSpec : ChangeSpec := { name := "rankSpots", fn := fun _ => fun
  | [d1, d2, d3, d4] => { results := [.lit (.bool true)], args := [d1, d2, d3, d4] }
  | _ => none }
def rankSpotsRow : OpenClaim := { program := "ytaaepadhapfkoaa", sum := "6e493af6eff297c46b6b3c51d8f522fd63fdb4eeb272c17ed80b0e9ac6028a66", func := "chartulary/chartularylaw17.RankSpots", spec := "rankSpots", unfollowed := true, recurses := true, apart := false }
def RankSpotsSaid : Prop := rankSpotsRow.holds Try.pinned (OpenSpec.ofChange rankSpotsSpec)

/-- ITS FALSE NEIGHBOUR: 'it returns false'. Refute it at one input. -/
def rankSpotsWrong : ChangeSpec := { name := "rankSpots", fn := fun _ => fun
  | [d1, d2, d3, d4] => { results := [.lit (.bool false)], args := [d1, d2, d3, d4] }
  | _ => none }
def RankSpotsWrongFalsely : Prop := rankSpotsRow.holds Try.pinned (OpenSpec.ofChange rankSpotsWrong)

/-- 'chartularylaw17.RankHomes': WHATEVER THE INPUT: true; the input reads as it did. -/
def rankHomesSpec : ChangeSpec := { name := "rankHomes", fn := fun _ => fun
  | [d1, d2, d3, d4] => { results := [.lit (.bool true)], args := [d1, d2, d3, d4] }
  | _ => none }
def rankHomesRow : OpenClaim := { program := "ytaaepadhapfkoaa", sum := "6e493af6eff297c46b6b3c51d8f522fd63fdb4eeb272c17ed80b0e9ac6028a66", func := "chartulary/chartularylaw17.RankHomes", spec := "rankHomes", unfollowed := true, recurses := true, apart := false }
def RankHomesSaid : Prop := rankHomesRow.holds Try.pinned (OpenSpec.ofChange rankHomesSpec)

/-- ITS FALSE NEIGHBOUR: 'it returns false'. Refute it at one input. -/
def rankHomesWrong : ChangeSpec := { name := "rankHomes", fn := fun _ => fun
  | [d1, d2, d3, d4] => { results := [.lit (.bool false)], args := [d1, d2, d3, d4] }
  | _ => none }
def RankHomesWrongFalsely : Prop := rankHomesRow.holds Try.pinned (OpenSpec.ofChange rankHomesWrong)

/-- 'chartularylaw25.ReadsFinds': WHATEVER THE INPUT: true; the input reads as it did. -/
def readsFindsSpec : ChangeSpec := { name := "readsFinds", fn := fun _ => fun
  | [d1, d2, d3, d4, d5] => { results := [.lit (.bool true)], args := [d1, d2, d3, d4, d5] }
  | _ => none }
def readsFindsRow : OpenClaim := { program := "ytaaepadhapfkoaa", sum := "6e493af6eff297c46b6b3c51d8f522fd63fdb4eeb272c17ed80b0e9ac6028a66", func := "chartulary/chartularylaw25.ReadsFinds", spec := "readsFinds", unfollowed := true, recurses := true, apart := false }
def ReadsFindsSaid : Prop := readsFindsRow.holds Try.pinned (OpenSpec.ofChange readsFindsSpec)

/-- ITS FALSE NEIGHBOUR: 'it returns false'. Refute it at one input. -/
def readsFindsWrong : ChangeSpec := { name := "readsFinds", fn := fun _ => fun
  | [d1, d2, d3, d4, d5] => { results := [.lit (.bool false)], args := [d1, d2, d3, d4, d5] }
  | _ => none }
def ReadsFindsWrongFalsely : Prop := readsFindsRow.holds Try.pinned (OpenSpec.ofChange readsFindsWrong)

/-- 'chartularylaw25.ReadsKnown': WHATEVER THE INPUT: true; the input reads as it did. -/
def readsKnownSpec : ChangeSpec := { name := "readsKnown", fn := fun _ => fun
  | [] => { results := [.lit (.bool true)], args := [] }
  | _ => none }
def readsKnownRow : OpenClaim := { program := "ytaaepadhapfkoaa", sum := "6e493af6eff297c46b6b3c51d8f522fd63fdb4eeb272c17ed80b0e9ac6028a66", func := "chartulary/chartularylaw25.ReadsKnown", spec := "readsKnown", unfollowed := true, recurses := true, apart := false }
def ReadsKnownSaid : Prop := readsKnownRow.holds Try.pinned (OpenSpec.ofChange readsKnownSpec)

/-- ITS FALSE NEIGHBOUR: 'it returns false'. Refute it at one input. -/
def readsKnownWrong : ChangeSpec := { name := "readsKnown", fn := fun _ => fun
  | [] => { results := [.lit (.bool false)], args := [] }
  | _ => none }
def ReadsKnownWrongFalsely : Prop := readsKnownRow.holds Try.pinned (OpenSpec.ofChange readsKnownWrong)

/-- 'chartularylaw25.ReadsRight': WHATEVER THE INPUT: true; the input reads as it did. -/
def readsRightSpec : ChangeSpec := { name := "readsRight", fn := fun _ => fun
  | [d1, d2] => { results := [.lit (.bool true)], args := [d1, d2] }
  | _ => none }
def readsRightRow : OpenClaim := { program := "ytaaepadhapfkoaa", sum := "6e493af6eff297c46b6b3c51d8f522fd63fdb4eeb272c17ed80b0e9ac6028a66", func := "chartulary/chartularylaw25.ReadsRight", spec := "readsRight", unfollowed := true, recurses := true, apart := false }
def ReadsRightSaid : Prop := readsRightRow.holds Try.pinned (OpenSpec.ofChange readsRightSpec)

/-- ITS FALSE NEIGHBOUR: 'it returns false'. Refute it at one input. -/
def readsRightWrong : ChangeSpec := { name := "readsRight", fn := fun _ => fun
  | [d1, d2] => { results := [.lit (.bool false)], args := [d1, d2] }
  | _ => none }
def ReadsRightWrongFalsely : Prop := readsRightRow.holds Try.pinned (OpenSpec.ofChange readsRightWrong)

/- THE SECOND FORM. 'bulk': how many values and letters a reading holds, each counted each time it is reached (what is shared counts as often as it is met; a slice's spare places count too). A statement '..UptoSaid' is the law's where the arguments, and the package variables that the reading takes, are together of bulk at most 1048576: NARROWER than '..Said'. Prove '..Said' where nothing that the law and all that it calls make is longer than what came in: it says more and counts as full. Else prove '..UptoSaid'. A law counts once. -/
mutual
def uptoBulk {H : Type} : DataW H → Nat
  | .lit (.string bytes) => bytes.length + 1
  | .lit _ => 1
  | .nil => 1
  | .ptr d => uptoBulk d + 1
  | .slice elems spare => uptoBulkAll elems + uptoBulkAll spare + 1
  | .agg parts => uptoBulkAll parts + 1
  | .iface _ d => uptoBulk d + 1
  | .map entries => uptoBulkEntries entries + 1
  | .held _ => 1
def uptoBulkAll {H : Type} : List (DataW H) → Nat
  | [] => 0
  | d :: r => uptoBulk d + uptoBulkAll r
def uptoBulkEntries {H : Type} : List (Lit × DataW H) → Nat
  | [] => 0
  | x :: r => uptoBulkEntry x + uptoBulkEntries r
def uptoBulkEntry {H : Type} : Lit × DataW H → Nat
  | (.string bytes, d) => bytes.length + uptoBulk d + 1
  | (_, d) => uptoBulk d + 1
 end
def uptoSmall : (H : Type) → List (DataW H) → Bool := fun _ ds => decide (uptoBulkAll ds ≤ 1048576)
def OpenSpec.upto (s : _root_.Go.ChangeSpec) : _root_.Go.OpenSpec := { _root_.Go.OpenSpec.ofChange s with cond := some uptoSmall }

/-- 'chartularylaw01.DigestOrder', WHERE WHAT IT READS IS OF BULK AT MOST 1048576: true; the input reads as it did. -/
def digestOrderUptoRow : OpenClaim := { program := "ytaaepadhapfkoaa", sum := "6e493af6eff297c46b6b3c51d8f522fd63fdb4eeb272c17ed80b0e9ac6028a66", func := "chartulary/chartularylaw01.DigestOrder", spec := "digestOrder", inPlace := ["internal/abi.NoEscape"], unfollowed := true, recurses := true, apart := false, narrowed := true }
def DigestOrderUptoSaid : Prop := digestOrderUptoRow.holds Try.pinned (OpenSpec.upto digestOrderSpec)

/-- 'chartularylaw01.DigestTexts', WHERE WHAT IT READS IS OF BULK AT MOST 1048576: true; the input reads as it did. -/
def digestTextsUptoRow : OpenClaim := { program := "ytaaepadhapfkoaa", sum := "6e493af6eff297c46b6b3c51d8f522fd63fdb4eeb272c17ed80b0e9ac6028a66", func := "chartulary/chartularylaw01.DigestTexts", spec := "digestTexts", inPlace := ["internal/abi.NoEscape"], unfollowed := true, recurses := true, apart := false, narrowed := true }
def DigestTextsUptoSaid : Prop := digestTextsUptoRow.holds Try.pinned (OpenSpec.upto digestTextsSpec)

/-- 'chartularylaw17.RankPlaces', WHERE WHAT IT READS IS OF BULK AT MOST 1048576: true; the input reads as it did. -/
def rankPlacesUptoRow : OpenClaim := { program := "ytaaepadhapfkoaa", sum := "6e493af6eff297c46b6b3c51d8f522fd63fdb4eeb272c17ed80b0e9ac6028a66", func := "chartulary/chartularylaw17.RankPlaces", spec := "rankPlaces", unfollowed := true, recurses := true, apart := false, narrowed := true }
def RankPlacesUptoSaid : Prop := rankPlacesUptoRow.holds Try.pinned (OpenSpec.upto rankPlacesSpec)

/-- 'chartularylaw17.RankKnown', WHERE WHAT IT READS IS OF BULK AT MOST 1048576: true; the input reads as it did. -/
def rankKnownUptoRow : OpenClaim := { program := "ytaaepadhapfkoaa", sum := "6e493af6eff297c46b6b3c51d8f522fd63fdb4eeb272c17ed80b0e9ac6028a66", func := "chartulary/chartularylaw17.RankKnown", spec := "rankKnown", unfollowed := true, recurses := true, apart := false, narrowed := true }
def RankKnownUptoSaid : Prop := rankKnownUptoRow.holds Try.pinned (OpenSpec.upto rankKnownSpec)

/-- 'chartularylaw17.RankWhole', WHERE WHAT IT READS IS OF BULK AT MOST 1048576: true; the input reads as it did. -/
def rankWholeUptoRow : OpenClaim := { program := "ytaaepadhapfkoaa", sum := "6e493af6eff297c46b6b3c51d8f522fd63fdb4eeb272c17ed80b0e9ac6028a66", func := "chartulary/chartularylaw17.RankWhole", spec := "rankWhole", unfollowed := true, recurses := true, apart := false, narrowed := true }
def RankWholeUptoSaid : Prop := rankWholeUptoRow.holds Try.pinned (OpenSpec.upto rankWholeSpec)

/-- 'chartularylaw17.RankSpots', WHERE WHAT IT READS IS OF BULK AT MOST 1048576: true; the input reads as it did. -/
def rankSpotsUptoRow : OpenClaim := { program := "ytaaepadhapfkoaa", sum := "6e493af6eff297c46b6b3c51d8f522fd63fdb4eeb272c17ed80b0e9ac6028a66", func := "chartulary/chartularylaw17.RankSpots", spec := "rankSpots", unfollowed := true, recurses := true, apart := false, narrowed := true }
def RankSpotsUptoSaid : Prop := rankSpotsUptoRow.holds Try.pinned (OpenSpec.upto rankSpotsSpec)

/-- 'chartularylaw17.RankHomes', WHERE WHAT IT READS IS OF BULK AT MOST 1048576: true; the input reads as it did. -/
def rankHomesUptoRow : OpenClaim := { program := "ytaaepadhapfkoaa", sum := "6e493af6eff297c46b6b3c51d8f522fd63fdb4eeb272c17ed80b0e9ac6028a66", func := "chartulary/chartularylaw17.RankHomes", spec := "rankHomes", unfollowed := true, recurses := true, apart := false, narrowed := true }
def RankHomesUptoSaid : Prop := rankHomesUptoRow.holds Try.pinned (OpenSpec.upto rankHomesSpec)

/-- 'chartularylaw25.ReadsFinds', WHERE WHAT IT READS IS OF BULK AT MOST 1048576: true; the input reads as it did. -/
def readsFindsUptoRow : OpenClaim := { program := "ytaaepadhapfkoaa", sum := "6e493af6eff297c46b6b3c51d8f522fd63fdb4eeb272c17ed80b0e9ac6028a66", func := "chartulary/chartularylaw25.ReadsFinds", spec := "readsFinds", unfollowed := true, recurses := true, apart := false, narrowed := true }
def ReadsFindsUptoSaid : Prop := readsFindsUptoRow.holds Try.pinned (OpenSpec.upto readsFindsSpec)

/-- 'chartularylaw25.ReadsKnown', WHERE WHAT IT READS IS OF BULK AT MOST 1048576: true; the input reads as it did. -/
def readsKnownUptoRow : OpenClaim := { program := "ytaaepadhapfkoaa", sum := "6e493af6eff297c46b6b3c51d8f522fd63fdb4eeb272c17ed80b0e9ac6028a66", func := "chartulary/chartularylaw25.ReadsKnown", spec := "readsKnown", unfollowed := true, recurses := true, apart := false, narrowed := true }
def ReadsKnownUptoSaid : Prop := readsKnownUptoRow.holds Try.pinned (OpenSpec.upto readsKnownSpec)

/-- 'chartularylaw25.ReadsRight', WHERE WHAT IT READS IS OF BULK AT MOST 1048576: true; the input reads as it did. -/
def readsRightUptoRow : OpenClaim := { program := "ytaaepadhapfkoaa", sum := "6e493af6eff297c46b6b3c51d8f522fd63fdb4eeb272c17ed80b0e9ac6028a66", func := "chartulary/chartularylaw25.ReadsRight", spec := "readsRight", unfollowed := true, recurses := true, apart := false, narrowed := true }
def ReadsRightUptoSaid : Prop := readsRightUptoRow.holds Try.pinned (OpenSpec.upto readsRightSpec)

end Rows
end Go.Proofs.Ytaaepadhapfkoaa
