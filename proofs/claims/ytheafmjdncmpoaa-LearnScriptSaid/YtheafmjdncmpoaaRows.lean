/-
  No cell of these rows narrows 'for every input' (looked for: loops, veiled, ifaces, maps, wideKeys, modest, calm, conditions, laid).
  DERIVED. THE GIVEN ROWS OF THIS SEAT. 15 by the template 'for every input the law returns true; each argument reads behind the call as it read before'; 0 by the template 'total and deterministic' (their statements: YtheafmjdncmpoaaTotals.lean).
  GIVEN WITH THE SEED: the statements are not yours to turn. If you find one false, say at which input.
  Laid BY PROGRAM, IN A SANDBOX (cutbox-rows.mjs): the forced cells as the released guide's own fill.sh prints them over the translation bdba41287ce1c1f0… (all of the seat's roots in one cut). By AI agents, Wed Nov 11 2026. No macro, syntax, notation, axiom, sorry.
-/
import Derived.Test.YtheafmjdncmpoaaChecked
import GoSem.Claim
import GoSem.ClaimJoined
import GoSem.ClaimMapViews
import Derived.JoinedTies
import Derived.KernelRfl
namespace Go.Proofs.Ytheafmjdncmpoaa
/- THE CELL 'sum', in the pinned program and in every row, IS THE sha256 OF THE DUMP (.gsa) THAT YtheafmjdncmpoaaProg.lean LOADS. Nothing in Lean hashes anything: it is a label: what it is worth is what the hold of that sum in a sandbox is worth. -/
noncomputable def Try.pinned : Pinned := { name := "ytheafmjdncmpoaa", sum := "bdba41287ce1c1f086a9c7ce4df5a80727bc00d7849ddd37ff1faee146d4a1f7", checked := Try.checked }
namespace Rows
def none {H : Type} : Left H := { results := [], args := [] }

/-- 'chartularylaw19.BallotNext': WHATEVER THE INPUT: true; the input reads as it did. -/
def ballotNextSpec : ChangeSpec := { name := "ballotNext", fn := fun _ => fun
  | [d1, d2, d3, d4] => { results := [.lit (.bool true)], args := [d1, d2, d3, d4] }
  | _ => none }
def ballotNextRow : OpenClaim := { program := "ytheafmjdncmpoaa", sum := "bdba41287ce1c1f086a9c7ce4df5a80727bc00d7849ddd37ff1faee146d4a1f7", func := "chartulary/chartularylaw19.BallotNext", spec := "ballotNext", apart := false }
def BallotNextSaid : Prop := ballotNextRow.holds Try.pinned (OpenSpec.ofChange ballotNextSpec)

/-- ITS FALSE NEIGHBOUR: 'it returns false'. Refute it at one input. -/
def ballotNextWrong : ChangeSpec := { name := "ballotNext", fn := fun _ => fun
  | [d1, d2, d3, d4] => { results := [.lit (.bool false)], args := [d1, d2, d3, d4] }
  | _ => none }
def BallotNextWrongFalsely : Prop := ballotNextRow.holds Try.pinned (OpenSpec.ofChange ballotNextWrong)

/-- 'chartularylaw19.BallotTells': WHATEVER THE INPUT: true; the input reads as it did. -/
def ballotTellsSpec : ChangeSpec := { name := "ballotTells", fn := fun _ => fun
  | [d1, d2, d3, d4] => { results := [.lit (.bool true)], args := [d1, d2, d3, d4] }
  | _ => none }
def ballotTellsRow : OpenClaim := { program := "ytheafmjdncmpoaa", sum := "bdba41287ce1c1f086a9c7ce4df5a80727bc00d7849ddd37ff1faee146d4a1f7", func := "chartulary/chartularylaw19.BallotTells", spec := "ballotTells", unfollowed := true, recurses := true, apart := false }
def BallotTellsSaid : Prop := ballotTellsRow.holds Try.pinned (OpenSpec.ofChange ballotTellsSpec)

/-- ITS FALSE NEIGHBOUR: 'it returns false'. Refute it at one input. -/
def ballotTellsWrong : ChangeSpec := { name := "ballotTells", fn := fun _ => fun
  | [d1, d2, d3, d4] => { results := [.lit (.bool false)], args := [d1, d2, d3, d4] }
  | _ => none }
def BallotTellsWrongFalsely : Prop := ballotTellsRow.holds Try.pinned (OpenSpec.ofChange ballotTellsWrong)

/-- 'chartularylaw19.BallotKnown': WHATEVER THE INPUT: true; the input reads as it did. -/
def ballotKnownSpec : ChangeSpec := { name := "ballotKnown", fn := fun _ => fun
  | [] => { results := [.lit (.bool true)], args := [] }
  | _ => none }
def ballotKnownRow : OpenClaim := { program := "ytheafmjdncmpoaa", sum := "bdba41287ce1c1f086a9c7ce4df5a80727bc00d7849ddd37ff1faee146d4a1f7", func := "chartulary/chartularylaw19.BallotKnown", spec := "ballotKnown", unfollowed := true, recurses := true, apart := false }
def BallotKnownSaid : Prop := ballotKnownRow.holds Try.pinned (OpenSpec.ofChange ballotKnownSpec)

/-- ITS FALSE NEIGHBOUR: 'it returns false'. Refute it at one input. -/
def ballotKnownWrong : ChangeSpec := { name := "ballotKnown", fn := fun _ => fun
  | [] => { results := [.lit (.bool false)], args := [] }
  | _ => none }
def BallotKnownWrongFalsely : Prop := ballotKnownRow.holds Try.pinned (OpenSpec.ofChange ballotKnownWrong)

/-- 'chartularylaw19.BallotOrder': WHATEVER THE INPUT: true; the input reads as it did. -/
def ballotOrderSpec : ChangeSpec := { name := "ballotOrder", fn := fun _ => fun
  | [d1, d2, d3] => { results := [.lit (.bool true)], args := [d1, d2, d3] }
  | _ => none }
def ballotOrderRow : OpenClaim := { program := "ytheafmjdncmpoaa", sum := "bdba41287ce1c1f086a9c7ce4df5a80727bc00d7849ddd37ff1faee146d4a1f7", func := "chartulary/chartularylaw19.BallotOrder", spec := "ballotOrder", unfollowed := true, recurses := true, apart := false }
def BallotOrderSaid : Prop := ballotOrderRow.holds Try.pinned (OpenSpec.ofChange ballotOrderSpec)

/-- ITS FALSE NEIGHBOUR: 'it returns false'. Refute it at one input. -/
def ballotOrderWrong : ChangeSpec := { name := "ballotOrder", fn := fun _ => fun
  | [d1, d2, d3] => { results := [.lit (.bool false)], args := [d1, d2, d3] }
  | _ => none }
def BallotOrderWrongFalsely : Prop := ballotOrderRow.holds Try.pinned (OpenSpec.ofChange ballotOrderWrong)

/-- 'chartularylaw19.BallotMax': WHATEVER THE INPUT: true; the input reads as it did. -/
def ballotMaxSpec : ChangeSpec := { name := "ballotMax", fn := fun _ => fun
  | [d] => { results := [.lit (.bool true)], args := [d] }
  | _ => none }
def ballotMaxRow : OpenClaim := { program := "ytheafmjdncmpoaa", sum := "bdba41287ce1c1f086a9c7ce4df5a80727bc00d7849ddd37ff1faee146d4a1f7", func := "chartulary/chartularylaw19.BallotMax", spec := "ballotMax", unfollowed := true, recurses := true, apart := false }
def BallotMaxSaid : Prop := ballotMaxRow.holds Try.pinned (OpenSpec.ofChange ballotMaxSpec)

/-- ITS FALSE NEIGHBOUR: 'it returns false'. Refute it at one input. -/
def ballotMaxWrong : ChangeSpec := { name := "ballotMax", fn := fun _ => fun
  | [d] => { results := [.lit (.bool false)], args := [d] }
  | _ => none }
def BallotMaxWrongFalsely : Prop := ballotMaxRow.holds Try.pinned (OpenSpec.ofChange ballotMaxWrong)

/-- 'chartularylaw18.QuorumScript': WHATEVER THE INPUT: true; the input reads as it did. -/
def quorumScriptSpec : ChangeSpec := { name := "quorumScript", fn := fun _ => fun
  | [d1, d2, d3, d4] => { results := [.lit (.bool true)], args := [d1, d2, d3, d4] }
  | _ => none }
def quorumScriptRow : OpenClaim := { program := "ytheafmjdncmpoaa", sum := "bdba41287ce1c1f086a9c7ce4df5a80727bc00d7849ddd37ff1faee146d4a1f7", func := "chartulary/chartularylaw18.QuorumScript", spec := "quorumScript", unfollowed := true, recurses := true, apart := false }
def QuorumScriptSaid : Prop := quorumScriptRow.holds Try.pinned (OpenSpec.ofChange quorumScriptSpec)

/-- ITS FALSE NEIGHBOUR: 'it returns false'. Refute it at one input. -/
def quorumScriptWrong : ChangeSpec := { name := "quorumScript", fn := fun _ => fun
  | [d1, d2, d3, d4] => { results := [.lit (.bool false)], args := [d1, d2, d3, d4] }
  | _ => none }
def QuorumScriptWrongFalsely : Prop := quorumScriptRow.holds Try.pinned (OpenSpec.ofChange quorumScriptWrong)

/-- 'chartularylaw18.QuorumNone': WHATEVER THE INPUT: true; the input reads as it did. -/
def quorumNoneSpec : ChangeSpec := { name := "quorumNone", fn := fun _ => fun
  | [d1, d2] => { results := [.lit (.bool true)], args := [d1, d2] }
  | _ => none }
def quorumNoneRow : OpenClaim := { program := "ytheafmjdncmpoaa", sum := "bdba41287ce1c1f086a9c7ce4df5a80727bc00d7849ddd37ff1faee146d4a1f7", func := "chartulary/chartularylaw18.QuorumNone", spec := "quorumNone", unfollowed := true, recurses := true, apart := false }
def QuorumNoneSaid : Prop := quorumNoneRow.holds Try.pinned (OpenSpec.ofChange quorumNoneSpec)

/-- ITS FALSE NEIGHBOUR: 'it returns false'. Refute it at one input. -/
def quorumNoneWrong : ChangeSpec := { name := "quorumNone", fn := fun _ => fun
  | [d1, d2] => { results := [.lit (.bool false)], args := [d1, d2] }
  | _ => none }
def QuorumNoneWrongFalsely : Prop := quorumNoneRow.holds Try.pinned (OpenSpec.ofChange quorumNoneWrong)

/-- 'chartularylaw18.QuorumKnown': WHATEVER THE INPUT: true; the input reads as it did. -/
def quorumKnownSpec : ChangeSpec := { name := "quorumKnown", fn := fun _ => fun
  | [] => { results := [.lit (.bool true)], args := [] }
  | _ => none }
def quorumKnownRow : OpenClaim := { program := "ytheafmjdncmpoaa", sum := "bdba41287ce1c1f086a9c7ce4df5a80727bc00d7849ddd37ff1faee146d4a1f7", func := "chartulary/chartularylaw18.QuorumKnown", spec := "quorumKnown", unfollowed := true, recurses := true, apart := false }
def QuorumKnownSaid : Prop := quorumKnownRow.holds Try.pinned (OpenSpec.ofChange quorumKnownSpec)

/-- ITS FALSE NEIGHBOUR: 'it returns false'. Refute it at one input. -/
def quorumKnownWrong : ChangeSpec := { name := "quorumKnown", fn := fun _ => fun
  | [] => { results := [.lit (.bool false)], args := [] }
  | _ => none }
def QuorumKnownWrongFalsely : Prop := quorumKnownRow.holds Try.pinned (OpenSpec.ofChange quorumKnownWrong)

/-- 'chartularylaw18.QuorumMeets': WHATEVER THE INPUT: true; the input reads as it did. -/
def quorumMeetsSpec : ChangeSpec := { name := "quorumMeets", fn := fun _ => fun
  | [d1, d2, d3] => { results := [.lit (.bool true)], args := [d1, d2, d3] }
  | _ => none }
def quorumMeetsRow : OpenClaim := { program := "ytheafmjdncmpoaa", sum := "bdba41287ce1c1f086a9c7ce4df5a80727bc00d7849ddd37ff1faee146d4a1f7", func := "chartulary/chartularylaw18.QuorumMeets", spec := "quorumMeets", unfollowed := true, recurses := true, apart := false }
def QuorumMeetsSaid : Prop := quorumMeetsRow.holds Try.pinned (OpenSpec.ofChange quorumMeetsSpec)

/-- ITS FALSE NEIGHBOUR: 'it returns false'. Refute it at one input. -/
def quorumMeetsWrong : ChangeSpec := { name := "quorumMeets", fn := fun _ => fun
  | [d1, d2, d3] => { results := [.lit (.bool false)], args := [d1, d2, d3] }
  | _ => none }
def QuorumMeetsWrongFalsely : Prop := quorumMeetsRow.holds Try.pinned (OpenSpec.ofChange quorumMeetsWrong)

/-- 'chartularylaw18.QuorumOnce': WHATEVER THE INPUT: true; the input reads as it did. -/
def quorumOnceSpec : ChangeSpec := { name := "quorumOnce", fn := fun _ => fun
  | [d1, d2, d3] => { results := [.lit (.bool true)], args := [d1, d2, d3] }
  | _ => none }
def quorumOnceRow : OpenClaim := { program := "ytheafmjdncmpoaa", sum := "bdba41287ce1c1f086a9c7ce4df5a80727bc00d7849ddd37ff1faee146d4a1f7", func := "chartulary/chartularylaw18.QuorumOnce", spec := "quorumOnce", unfollowed := true, recurses := true, apart := false }
def QuorumOnceSaid : Prop := quorumOnceRow.holds Try.pinned (OpenSpec.ofChange quorumOnceSpec)

/-- ITS FALSE NEIGHBOUR: 'it returns false'. Refute it at one input. -/
def quorumOnceWrong : ChangeSpec := { name := "quorumOnce", fn := fun _ => fun
  | [d1, d2, d3] => { results := [.lit (.bool false)], args := [d1, d2, d3] }
  | _ => none }
def QuorumOnceWrongFalsely : Prop := quorumOnceRow.holds Try.pinned (OpenSpec.ofChange quorumOnceWrong)

/-- 'chartularylaw22.LearnSoon': WHATEVER THE INPUT: true; the input reads as it did. -/
def learnSoonSpec : ChangeSpec := { name := "learnSoon", fn := fun _ => fun
  | [d1, d2, d3, d4] => { results := [.lit (.bool true)], args := [d1, d2, d3, d4] }
  | _ => none }
def learnSoonRow : OpenClaim := { program := "ytheafmjdncmpoaa", sum := "bdba41287ce1c1f086a9c7ce4df5a80727bc00d7849ddd37ff1faee146d4a1f7", func := "chartulary/chartularylaw22.LearnSoon", spec := "learnSoon", unfollowed := true, recurses := true, apart := false }
def LearnSoonSaid : Prop := learnSoonRow.holds Try.pinned (OpenSpec.ofChange learnSoonSpec)

/-- ITS FALSE NEIGHBOUR: 'it returns false'. Refute it at one input. -/
def learnSoonWrong : ChangeSpec := { name := "learnSoon", fn := fun _ => fun
  | [d1, d2, d3, d4] => { results := [.lit (.bool false)], args := [d1, d2, d3, d4] }
  | _ => none }
def LearnSoonWrongFalsely : Prop := learnSoonRow.holds Try.pinned (OpenSpec.ofChange learnSoonWrong)

/-- 'chartularylaw22.LearnScript': WHATEVER THE INPUT: true; the input reads as it did. -/
def learnScriptSpec : ChangeSpec := { name := "learnScript", fn := fun _ => fun
  | [d1, d2, d3] => { results := [.lit (.bool true)], args := [d1, d2, d3] }
  | _ => none }
def learnScriptRow : OpenClaim := { program := "ytheafmjdncmpoaa", sum := "bdba41287ce1c1f086a9c7ce4df5a80727bc00d7849ddd37ff1faee146d4a1f7", func := "chartulary/chartularylaw22.LearnScript", spec := "learnScript", unfollowed := true, recurses := true, apart := false }
def LearnScriptSaid : Prop := learnScriptRow.holds Try.pinned (OpenSpec.ofChange learnScriptSpec)

/-- ITS FALSE NEIGHBOUR: 'it returns false'. Refute it at one input. -/
def learnScriptWrong : ChangeSpec := { name := "learnScript", fn := fun _ => fun
  | [d1, d2, d3] => { results := [.lit (.bool false)], args := [d1, d2, d3] }
  | _ => none }
def LearnScriptWrongFalsely : Prop := learnScriptRow.holds Try.pinned (OpenSpec.ofChange learnScriptWrong)

/-- 'chartularylaw22.LearnNone': WHATEVER THE INPUT: true; the input reads as it did. -/
def learnNoneSpec : ChangeSpec := { name := "learnNone", fn := fun _ => fun
  | [d] => { results := [.lit (.bool true)], args := [d] }
  | _ => none }
def learnNoneRow : OpenClaim := { program := "ytheafmjdncmpoaa", sum := "bdba41287ce1c1f086a9c7ce4df5a80727bc00d7849ddd37ff1faee146d4a1f7", func := "chartulary/chartularylaw22.LearnNone", spec := "learnNone", unfollowed := true, recurses := true, apart := false }
def LearnNoneSaid : Prop := learnNoneRow.holds Try.pinned (OpenSpec.ofChange learnNoneSpec)

/-- ITS FALSE NEIGHBOUR: 'it returns false'. Refute it at one input. -/
def learnNoneWrong : ChangeSpec := { name := "learnNone", fn := fun _ => fun
  | [d] => { results := [.lit (.bool false)], args := [d] }
  | _ => none }
def LearnNoneWrongFalsely : Prop := learnNoneRow.holds Try.pinned (OpenSpec.ofChange learnNoneWrong)

/-- 'chartularylaw22.LearnKnown': WHATEVER THE INPUT: true; the input reads as it did. -/
def learnKnownSpec : ChangeSpec := { name := "learnKnown", fn := fun _ => fun
  | [] => { results := [.lit (.bool true)], args := [] }
  | _ => none }
def learnKnownRow : OpenClaim := { program := "ytheafmjdncmpoaa", sum := "bdba41287ce1c1f086a9c7ce4df5a80727bc00d7849ddd37ff1faee146d4a1f7", func := "chartulary/chartularylaw22.LearnKnown", spec := "learnKnown", unfollowed := true, recurses := true, apart := false }
def LearnKnownSaid : Prop := learnKnownRow.holds Try.pinned (OpenSpec.ofChange learnKnownSpec)

/-- ITS FALSE NEIGHBOUR: 'it returns false'. Refute it at one input. -/
def learnKnownWrong : ChangeSpec := { name := "learnKnown", fn := fun _ => fun
  | [] => { results := [.lit (.bool false)], args := [] }
  | _ => none }
def LearnKnownWrongFalsely : Prop := learnKnownRow.holds Try.pinned (OpenSpec.ofChange learnKnownWrong)

/-- 'chartularylaw22.LearnMajority': WHATEVER THE INPUT: true; the input reads as it did. -/
def learnMajoritySpec : ChangeSpec := { name := "learnMajority", fn := fun _ => fun
  | [d1, d2] => { results := [.lit (.bool true)], args := [d1, d2] }
  | _ => none }
def learnMajorityRow : OpenClaim := { program := "ytheafmjdncmpoaa", sum := "bdba41287ce1c1f086a9c7ce4df5a80727bc00d7849ddd37ff1faee146d4a1f7", func := "chartulary/chartularylaw22.LearnMajority", spec := "learnMajority", unfollowed := true, recurses := true, apart := false }
def LearnMajoritySaid : Prop := learnMajorityRow.holds Try.pinned (OpenSpec.ofChange learnMajoritySpec)

/-- ITS FALSE NEIGHBOUR: 'it returns false'. Refute it at one input. -/
def learnMajorityWrong : ChangeSpec := { name := "learnMajority", fn := fun _ => fun
  | [d1, d2] => { results := [.lit (.bool false)], args := [d1, d2] }
  | _ => none }
def LearnMajorityWrongFalsely : Prop := learnMajorityRow.holds Try.pinned (OpenSpec.ofChange learnMajorityWrong)

/- THE SECOND FORM. 'bulk': how many values and letters a reading holds, each counted each time it is reached (what is shared counts as often as it is met; a slice's spare places count too). A statement '..UptoSaid' is the law's where the arguments, and the package variables that the reading takes, are together of bulk at most 1048576: NARROWER than '..Said'. Prove '..Said' where nothing that the law and all that it calls make is longer than what came in: it says more and counts as full. Else prove '..UptoSaid'. A law counts once. -/
mutual
def uptoBulk {H : Type} : DataW H → Nat
  | .lit (.string bytes) => bytes.length + 1
  | .lit _ => 1
  | .nil => 1
  | .ptr d => uptoBulk d + 1
  | .slice elems spare => uptoBulkAll elems + uptoBulkAll spare + 1
  | .agg parts => uptoBulkAll parts + 1
  | .iface _ d => uptoBulk d + 1
  | .map entries => uptoBulkEntries entries + 1
  | .held _ => 1
def uptoBulkAll {H : Type} : List (DataW H) → Nat
  | [] => 0
  | d :: r => uptoBulk d + uptoBulkAll r
def uptoBulkEntries {H : Type} : List (Lit × DataW H) → Nat
  | [] => 0
  | x :: r => uptoBulkEntry x + uptoBulkEntries r
def uptoBulkEntry {H : Type} : Lit × DataW H → Nat
  | (.string bytes, d) => bytes.length + uptoBulk d + 1
  | (_, d) => uptoBulk d + 1
 end
def uptoSmall : (H : Type) → List (DataW H) → Bool := fun _ ds => decide (uptoBulkAll ds ≤ 1048576)
def OpenSpec.upto (s : _root_.Go.ChangeSpec) : _root_.Go.OpenSpec := { _root_.Go.OpenSpec.ofChange s with cond := some uptoSmall }

/-- 'chartularylaw19.BallotNext', WHERE WHAT IT READS IS OF BULK AT MOST 1048576: true; the input reads as it did. -/
def ballotNextUptoRow : OpenClaim := { program := "ytheafmjdncmpoaa", sum := "bdba41287ce1c1f086a9c7ce4df5a80727bc00d7849ddd37ff1faee146d4a1f7", func := "chartulary/chartularylaw19.BallotNext", spec := "ballotNext", apart := false, narrowed := true }
def BallotNextUptoSaid : Prop := ballotNextUptoRow.holds Try.pinned (OpenSpec.upto ballotNextSpec)

/-- 'chartularylaw19.BallotTells', WHERE WHAT IT READS IS OF BULK AT MOST 1048576: true; the input reads as it did. -/
def ballotTellsUptoRow : OpenClaim := { program := "ytheafmjdncmpoaa", sum := "bdba41287ce1c1f086a9c7ce4df5a80727bc00d7849ddd37ff1faee146d4a1f7", func := "chartulary/chartularylaw19.BallotTells", spec := "ballotTells", unfollowed := true, recurses := true, apart := false, narrowed := true }
def BallotTellsUptoSaid : Prop := ballotTellsUptoRow.holds Try.pinned (OpenSpec.upto ballotTellsSpec)

/-- 'chartularylaw19.BallotKnown', WHERE WHAT IT READS IS OF BULK AT MOST 1048576: true; the input reads as it did. -/
def ballotKnownUptoRow : OpenClaim := { program := "ytheafmjdncmpoaa", sum := "bdba41287ce1c1f086a9c7ce4df5a80727bc00d7849ddd37ff1faee146d4a1f7", func := "chartulary/chartularylaw19.BallotKnown", spec := "ballotKnown", unfollowed := true, recurses := true, apart := false, narrowed := true }
def BallotKnownUptoSaid : Prop := ballotKnownUptoRow.holds Try.pinned (OpenSpec.upto ballotKnownSpec)

/-- 'chartularylaw19.BallotOrder', WHERE WHAT IT READS IS OF BULK AT MOST 1048576: true; the input reads as it did. -/
def ballotOrderUptoRow : OpenClaim := { program := "ytheafmjdncmpoaa", sum := "bdba41287ce1c1f086a9c7ce4df5a80727bc00d7849ddd37ff1faee146d4a1f7", func := "chartulary/chartularylaw19.BallotOrder", spec := "ballotOrder", unfollowed := true, recurses := true, apart := false, narrowed := true }
def BallotOrderUptoSaid : Prop := ballotOrderUptoRow.holds Try.pinned (OpenSpec.upto ballotOrderSpec)

/-- 'chartularylaw19.BallotMax', WHERE WHAT IT READS IS OF BULK AT MOST 1048576: true; the input reads as it did. -/
def ballotMaxUptoRow : OpenClaim := { program := "ytheafmjdncmpoaa", sum := "bdba41287ce1c1f086a9c7ce4df5a80727bc00d7849ddd37ff1faee146d4a1f7", func := "chartulary/chartularylaw19.BallotMax", spec := "ballotMax", unfollowed := true, recurses := true, apart := false, narrowed := true }
def BallotMaxUptoSaid : Prop := ballotMaxUptoRow.holds Try.pinned (OpenSpec.upto ballotMaxSpec)

/-- 'chartularylaw18.QuorumScript', WHERE WHAT IT READS IS OF BULK AT MOST 1048576: true; the input reads as it did. -/
def quorumScriptUptoRow : OpenClaim := { program := "ytheafmjdncmpoaa", sum := "bdba41287ce1c1f086a9c7ce4df5a80727bc00d7849ddd37ff1faee146d4a1f7", func := "chartulary/chartularylaw18.QuorumScript", spec := "quorumScript", unfollowed := true, recurses := true, apart := false, narrowed := true }
def QuorumScriptUptoSaid : Prop := quorumScriptUptoRow.holds Try.pinned (OpenSpec.upto quorumScriptSpec)

/-- 'chartularylaw18.QuorumNone', WHERE WHAT IT READS IS OF BULK AT MOST 1048576: true; the input reads as it did. -/
def quorumNoneUptoRow : OpenClaim := { program := "ytheafmjdncmpoaa", sum := "bdba41287ce1c1f086a9c7ce4df5a80727bc00d7849ddd37ff1faee146d4a1f7", func := "chartulary/chartularylaw18.QuorumNone", spec := "quorumNone", unfollowed := true, recurses := true, apart := false, narrowed := true }
def QuorumNoneUptoSaid : Prop := quorumNoneUptoRow.holds Try.pinned (OpenSpec.upto quorumNoneSpec)

/-- 'chartularylaw18.QuorumKnown', WHERE WHAT IT READS IS OF BULK AT MOST 1048576: true; the input reads as it did. -/
def quorumKnownUptoRow : OpenClaim := { program := "ytheafmjdncmpoaa", sum := "bdba41287ce1c1f086a9c7ce4df5a80727bc00d7849ddd37ff1faee146d4a1f7", func := "chartulary/chartularylaw18.QuorumKnown", spec := "quorumKnown", unfollowed := true, recurses := true, apart := false, narrowed := true }
def QuorumKnownUptoSaid : Prop := quorumKnownUptoRow.holds Try.pinned (OpenSpec.upto quorumKnownSpec)

/-- 'chartularylaw18.QuorumMeets', WHERE WHAT IT READS IS OF BULK AT MOST 1048576: true; the input reads as it did. -/
def quorumMeetsUptoRow : OpenClaim := { program := "ytheafmjdncmpoaa", sum := "bdba41287ce1c1f086a9c7ce4df5a80727bc00d7849ddd37ff1faee146d4a1f7", func := "chartulary/chartularylaw18.QuorumMeets", spec := "quorumMeets", unfollowed := true, recurses := true, apart := false, narrowed := true }
def QuorumMeetsUptoSaid : Prop := quorumMeetsUptoRow.holds Try.pinned (OpenSpec.upto quorumMeetsSpec)

/-- 'chartularylaw18.QuorumOnce', WHERE WHAT IT READS IS OF BULK AT MOST 1048576: true; the input reads as it did. -/
def quorumOnceUptoRow : OpenClaim := { program := "ytheafmjdncmpoaa", sum := "bdba41287ce1c1f086a9c7ce4df5a80727bc00d7849ddd37ff1faee146d4a1f7", func := "chartulary/chartularylaw18.QuorumOnce", spec := "quorumOnce", unfollowed := true, recurses := true, apart := false, narrowed := true }
def QuorumOnceUptoSaid : Prop := quorumOnceUptoRow.holds Try.pinned (OpenSpec.upto quorumOnceSpec)

/-- 'chartularylaw22.LearnSoon', WHERE WHAT IT READS IS OF BULK AT MOST 1048576: true; the input reads as it did. -/
def learnSoonUptoRow : OpenClaim := { program := "ytheafmjdncmpoaa", sum := "bdba41287ce1c1f086a9c7ce4df5a80727bc00d7849ddd37ff1faee146d4a1f7", func := "chartulary/chartularylaw22.LearnSoon", spec := "learnSoon", unfollowed := true, recurses := true, apart := false, narrowed := true }
def LearnSoonUptoSaid : Prop := learnSoonUptoRow.holds Try.pinned (OpenSpec.upto learnSoonSpec)

/-- 'chartularylaw22.LearnScript', WHERE WHAT IT READS IS OF BULK AT MOST 1048576: true; the input reads as it did. -/
def learnScriptUptoRow : OpenClaim := { program := "ytheafmjdncmpoaa", sum := "bdba41287ce1c1f086a9c7ce4df5a80727bc00d7849ddd37ff1faee146d4a1f7", func := "chartulary/chartularylaw22.LearnScript", spec := "learnScript", unfollowed := true, recurses := true, apart := false, narrowed := true }
def LearnScriptUptoSaid : Prop := learnScriptUptoRow.holds Try.pinned (OpenSpec.upto learnScriptSpec)

/-- 'chartularylaw22.LearnNone', WHERE WHAT IT READS IS OF BULK AT MOST 1048576: true; the input reads as it did. -/
def learnNoneUptoRow : OpenClaim := { program := "ytheafmjdncmpoaa", sum := "bdba41287ce1c1f086a9c7ce4df5a80727bc00d7849ddd37ff1faee146d4a1f7", func := "chartulary/chartularylaw22.LearnNone", spec := "learnNone", unfollowed := true, recurses := true, apart := false, narrowed := true }
def LearnNoneUptoSaid : Prop := learnNoneUptoRow.holds Try.pinned (OpenSpec.upto learnNoneSpec)

/-- 'chartularylaw22.LearnKnown', WHERE WHAT IT READS IS OF BULK AT MOST 1048576: true; the input reads as it did. -/
def learnKnownUptoRow : OpenClaim := { program := "ytheafmjdncmpoaa", sum := "bdba41287ce1c1f086a9c7ce4df5a80727bc00d7849ddd37ff1faee146d4a1f7", func := "chartulary/chartularylaw22.LearnKnown", spec := "learnKnown", unfollowed := true, recurses := true, apart := false, narrowed := true }
def LearnKnownUptoSaid : Prop := learnKnownUptoRow.holds Try.pinned (OpenSpec.upto learnKnownSpec)

/-- 'chartularylaw22.LearnMajority', WHERE WHAT IT READS IS OF BULK AT MOST 1048576: true; the input reads as it did. -/
def learnMajorityUptoRow : OpenClaim := { program := "ytheafmjdncmpoaa", sum := "bdba41287ce1c1f086a9c7ce4df5a80727bc00d7849ddd37ff1faee146d4a1f7", func := "chartulary/chartularylaw22.LearnMajority", spec := "learnMajority", unfollowed := true, recurses := true, apart := false, narrowed := true }
def LearnMajorityUptoSaid : Prop := learnMajorityUptoRow.holds Try.pinned (OpenSpec.upto learnMajoritySpec)

end Rows
end Go.Proofs.Ytheafmjdncmpoaa
