/-
  No cell of these rows narrows 'for every input' (looked for: loops, veiled, ifaces, maps, wideKeys, modest, calm, conditions, laid).
  DERIVED. THE GIVEN ROWS OF THIS SEAT. 5 by the template 'for every input the law returns true; each argument reads behind the call as it read before'; 0 by the template 'total and deterministic' (their statements: YtakcidegacikoaaTotals.lean).
  GIVEN WITH THE SEED: the statements are not yours to turn. If you find one false, say at which input.
  Laid BY PROGRAM, IN A SANDBOX (cutbox-rows.mjs): the forced cells as the released guide's own fill.sh prints them over the translation 7590031c71e18849… (all of the seat's roots in one cut). By AI agents, Wed Nov 11 2026. No macro, syntax, notation, axiom, sorry.
-/
import Derived.Test.YtakcidegacikoaaChecked
import GoSem.Claim
import GoSem.ClaimJoined
import GoSem.ClaimMapViews
import Derived.JoinedTies
import Derived.KernelRfl
namespace Go.Proofs.Ytakcidegacikoaa
/- THE CELL 'sum', in the pinned program and in every row, IS THE sha256 OF THE DUMP (.gsa) THAT YtakcidegacikoaaProg.lean LOADS. Nothing in Lean hashes anything: it is a label: what it is worth is what the hold of that sum in a sandbox is worth. -/
noncomputable def Try.pinned : Pinned := { name := "ytakcidegacikoaa", sum := "7590031c71e18849febe36d4a13e4d2a55fc9689ced3cea708f613a6a45bdd16", checked := Try.checked }
namespace Rows
def none {H : Type} : Left H := { results := [], args := [] }

/-- 'chartularylaw11.MemberKnown': WHATEVER THE INPUT: true; the input reads as it did. -/
def memberKnownSpec : ChangeSpec := { name := "memberKnown", fn := fun _ => fun
  | [] => { results := [.lit (.bool true)], args := [] }
  | _ => none }
def memberKnownRow : OpenClaim := { program := "ytakcidegacikoaa", sum := "7590031c71e18849febe36d4a13e4d2a55fc9689ced3cea708f613a6a45bdd16", func := "chartulary/chartularylaw11.MemberKnown", spec := "memberKnown", apart := false }
def MemberKnownSaid : Prop := memberKnownRow.holds Try.pinned (OpenSpec.ofChange memberKnownSpec)

/-- ITS FALSE NEIGHBOUR: 'it returns false'. Refute it at one input. -/
def memberKnownWrong : ChangeSpec := { name := "memberKnown", fn := fun _ => fun
  | [] => { results := [.lit (.bool false)], args := [] }
  | _ => none }
def MemberKnownWrongFalsely : Prop := memberKnownRow.holds Try.pinned (OpenSpec.ofChange memberKnownWrong)

/-- 'chartularylaw11.MemberOne': WHATEVER THE INPUT: true; the input reads as it did. -/
def memberOneSpec : ChangeSpec := { name := "memberOne", fn := fun _ => fun
  | [d1, d2] => { results := [.lit (.bool true)], args := [d1, d2] }
  | _ => none }
def memberOneRow : OpenClaim := { program := "ytakcidegacikoaa", sum := "7590031c71e18849febe36d4a13e4d2a55fc9689ced3cea708f613a6a45bdd16", func := "chartulary/chartularylaw11.MemberOne", spec := "memberOne", apart := false }
def MemberOneSaid : Prop := memberOneRow.holds Try.pinned (OpenSpec.ofChange memberOneSpec)

/-- ITS FALSE NEIGHBOUR: 'it returns false'. Refute it at one input. -/
def memberOneWrong : ChangeSpec := { name := "memberOne", fn := fun _ => fun
  | [d1, d2] => { results := [.lit (.bool false)], args := [d1, d2] }
  | _ => none }
def MemberOneWrongFalsely : Prop := memberOneRow.holds Try.pinned (OpenSpec.ofChange memberOneWrong)

/-- 'chartularylaw11.MemberOrder': WHATEVER THE INPUT: true; the input reads as it did. -/
def memberOrderSpec : ChangeSpec := { name := "memberOrder", fn := fun _ => fun
  | [d1, d2, d3] => { results := [.lit (.bool true)], args := [d1, d2, d3] }
  | _ => none }
def memberOrderRow : OpenClaim := { program := "ytakcidegacikoaa", sum := "7590031c71e18849febe36d4a13e4d2a55fc9689ced3cea708f613a6a45bdd16", func := "chartulary/chartularylaw11.MemberOrder", spec := "memberOrder", apart := false }
def MemberOrderSaid : Prop := memberOrderRow.holds Try.pinned (OpenSpec.ofChange memberOrderSpec)

/-- ITS FALSE NEIGHBOUR: 'it returns false'. Refute it at one input. -/
def memberOrderWrong : ChangeSpec := { name := "memberOrder", fn := fun _ => fun
  | [d1, d2, d3] => { results := [.lit (.bool false)], args := [d1, d2, d3] }
  | _ => none }
def MemberOrderWrongFalsely : Prop := memberOrderRow.holds Try.pinned (OpenSpec.ofChange memberOrderWrong)

/-- 'chartularylaw11.MemberRefutes': WHATEVER THE INPUT: true; the input reads as it did. -/
def memberRefutesSpec : ChangeSpec := { name := "memberRefutes", fn := fun _ => fun
  | [d1, d2] => { results := [.lit (.bool true)], args := [d1, d2] }
  | _ => none }
def memberRefutesRow : OpenClaim := { program := "ytakcidegacikoaa", sum := "7590031c71e18849febe36d4a13e4d2a55fc9689ced3cea708f613a6a45bdd16", func := "chartulary/chartularylaw11.MemberRefutes", spec := "memberRefutes", apart := false }
def MemberRefutesSaid : Prop := memberRefutesRow.holds Try.pinned (OpenSpec.ofChange memberRefutesSpec)

/-- ITS FALSE NEIGHBOUR: 'it returns false'. Refute it at one input. -/
def memberRefutesWrong : ChangeSpec := { name := "memberRefutes", fn := fun _ => fun
  | [d1, d2] => { results := [.lit (.bool false)], args := [d1, d2] }
  | _ => none }
def MemberRefutesWrongFalsely : Prop := memberRefutesRow.holds Try.pinned (OpenSpec.ofChange memberRefutesWrong)

/-- 'chartularylaw11.MemberTells': WHATEVER THE INPUT: true; the input reads as it did. -/
def memberTellsSpec : ChangeSpec := { name := "memberTells", fn := fun _ => fun
  | [d1, d2] => { results := [.lit (.bool true)], args := [d1, d2] }
  | _ => none }
def memberTellsRow : OpenClaim := { program := "ytakcidegacikoaa", sum := "7590031c71e18849febe36d4a13e4d2a55fc9689ced3cea708f613a6a45bdd16", func := "chartulary/chartularylaw11.MemberTells", spec := "memberTells", apart := false }
def MemberTellsSaid : Prop := memberTellsRow.holds Try.pinned (OpenSpec.ofChange memberTellsSpec)

/-- ITS FALSE NEIGHBOUR: 'it returns false'. Refute it at one input. -/
def memberTellsWrong : ChangeSpec := { name := "memberTells", fn := fun _ => fun
  | [d1, d2] => { results := [.lit (.bool false)], args := [d1, d2] }
  | _ => none }
def MemberTellsWrongFalsely : Prop := memberTellsRow.holds Try.pinned (OpenSpec.ofChange memberTellsWrong)

/- THE SECOND FORM. 'bulk': how many values and letters a reading holds, each counted each time it is reached (what is shared counts as often as it is met; a slice's spare places count too). A statement '..UptoSaid' is the law's where the arguments, and the package variables that the reading takes, are together of bulk at most 1048576: NARROWER than '..Said'. Prove '..Said' where nothing that the law and all that it calls make is longer than what came in: it says more and counts as full. Else prove '..UptoSaid'. A law counts once. -/
mutual
def uptoBulk {H : Type} : DataW H → Nat
  | .lit (.string bytes) => bytes.length + 1
  | .lit _ => 1
  | .nil => 1
  | .ptr d => uptoBulk d + 1
  | .slice elems spare => uptoBulkAll elems + uptoBulkAll spare + 1
  | .agg parts => uptoBulkAll parts + 1
  | .iface _ d => uptoBulk d + 1
  | .map entries => uptoBulkEntries entries + 1
  | .held _ => 1
def uptoBulkAll {H : Type} : List (DataW H) → Nat
  | [] => 0
  | d :: r => uptoBulk d + uptoBulkAll r
def uptoBulkEntries {H : Type} : List (Lit × DataW H) → Nat
  | [] => 0
  | x :: r => uptoBulkEntry x + uptoBulkEntries r
def uptoBulkEntry {H : Type} : Lit × DataW H → Nat
  | (.string bytes, d) => bytes.length + uptoBulk d + 1
  | (_, d) => uptoBulk d + 1
 end
def uptoSmall : (H : Type) → List (DataW H) → Bool := fun _ ds => decide (uptoBulkAll ds ≤ 1048576)
def OpenSpec.upto (s : _root_.Go.ChangeSpec) : _root_.Go.OpenSpec := { _root_.Go.OpenSpec.ofChange s with cond := some uptoSmall }

/-- 'chartularylaw11.MemberKnown', WHERE WHAT IT READS IS OF BULK AT MOST 1048576: true; the input reads as it did. -/
def memberKnownUptoRow : OpenClaim := { program := "ytakcidegacikoaa", sum := "7590031c71e18849febe36d4a13e4d2a55fc9689ced3cea708f613a6a45bdd16", func := "chartulary/chartularylaw11.MemberKnown", spec := "memberKnown", apart := false, narrowed := true }
def MemberKnownUptoSaid : Prop := memberKnownUptoRow.holds Try.pinned (OpenSpec.upto memberKnownSpec)

/-- 'chartularylaw11.MemberOne', WHERE WHAT IT READS IS OF BULK AT MOST 1048576: true; the input reads as it did. -/
def memberOneUptoRow : OpenClaim := { program := "ytakcidegacikoaa", sum := "7590031c71e18849febe36d4a13e4d2a55fc9689ced3cea708f613a6a45bdd16", func := "chartulary/chartularylaw11.MemberOne", spec := "memberOne", apart := false, narrowed := true }
def MemberOneUptoSaid : Prop := memberOneUptoRow.holds Try.pinned (OpenSpec.upto memberOneSpec)

/-- 'chartularylaw11.MemberOrder', WHERE WHAT IT READS IS OF BULK AT MOST 1048576: true; the input reads as it did. -/
def memberOrderUptoRow : OpenClaim := { program := "ytakcidegacikoaa", sum := "7590031c71e18849febe36d4a13e4d2a55fc9689ced3cea708f613a6a45bdd16", func := "chartulary/chartularylaw11.MemberOrder", spec := "memberOrder", apart := false, narrowed := true }
def MemberOrderUptoSaid : Prop := memberOrderUptoRow.holds Try.pinned (OpenSpec.upto memberOrderSpec)

/-- 'chartularylaw11.MemberRefutes', WHERE WHAT IT READS IS OF BULK AT MOST 1048576: true; the input reads as it did. -/
def memberRefutesUptoRow : OpenClaim := { program := "ytakcidegacikoaa", sum := "7590031c71e18849febe36d4a13e4d2a55fc9689ced3cea708f613a6a45bdd16", func := "chartulary/chartularylaw11.MemberRefutes", spec := "memberRefutes", apart := false, narrowed := true }
def MemberRefutesUptoSaid : Prop := memberRefutesUptoRow.holds Try.pinned (OpenSpec.upto memberRefutesSpec)

/-- 'chartularylaw11.MemberTells', WHERE WHAT IT READS IS OF BULK AT MOST 1048576: true; the input reads as it did. -/
def memberTellsUptoRow : OpenClaim := { program := "ytakcidegacikoaa", sum := "7590031c71e18849febe36d4a13e4d2a55fc9689ced3cea708f613a6a45bdd16", func := "chartulary/chartularylaw11.MemberTells", spec := "memberTells", apart := false, narrowed := true }
def MemberTellsUptoSaid : Prop := memberTellsUptoRow.holds Try.pinned (OpenSpec.upto memberTellsSpec)

end Rows
end Go.Proofs.Ytakcidegacikoaa
