-- PRINTED BY print.sh 35421559b90ae4d0a3588c463048766b98c2df88dd9212a6774a882060cdf62d: not written by this session
import Derived.Test.YtheafmjdncmpoaaProg
import Derived.Below
import Derived.Deep.Draws
import Derived.Deep.AppendLies
import Derived.Maps.AppendAt
import Derived.OwnWalk
import Derived.Laws.BytesArg
import Derived.Laws.MakeOwn
import Derived.Laws.OwnMore
import Derived.Deep.OwnRows
import Derived.Tactics
import Derived.Lib.ConvBytes
import Derived.Laws.Slices
import Derived.WalkKit
import Derived.KernelRfl
import Derived.RowKit3
import Derived.Deep.LoopGhost
import Derived.Deep.QuietTactic
import Derived.BigQuiet
import Derived.WideLaws
import Derived.Deep.DeepCutAuto
import Derived.Deep.CutBlock
import Derived.Deep.RegionHeld3
import Derived.Laws.Rows
import Derived.Lib.AppendStr
import Derived.ArgAppend
import Derived.Laws.IdiomCopy
import Derived.OrdersHeld
import Derived.Laws.BitsLemmas
import Derived.RowKit
import Derived.Test.YtheafmjdncmpoaaWWords
import Derived.Test.YtheafmjdncmpoaaWLast
import Derived.Test.YtheafmjdncmpoaaWTab
import Derived.Test.YtheafmjdncmpoaaWFour
import Derived.Test.YtheafmjdncmpoaaWQPut
import Derived.Test.YtheafmjdncmpoaaWApart
import Derived.Test.YtheafmjdncmpoaaWArr
import Derived.Test.YtheafmjdncmpoaaWZeros
import Derived.Test.YtheafmjdncmpoaaWFoot
import Derived.Test.YtheafmjdncmpoaaWKept
import Derived.Test.YtheafmjdncmpoaaWShare
import Derived.Test.YtheafmjdncmpoaaWN
import Derived.Test.YtheafmjdncmpoaaWFootNe
import Derived.Test.YtheafmjdncmpoaaWAt
import Derived.Test.YtheafmjdncmpoaaWEqStruct
import Derived.Test.YtheafmjdncmpoaaWRepsOne
import Derived.Test.YtheafmjdncmpoaaWInv
import Derived.Test.YtheafmjdncmpoaaWInvWords
import Derived.Test.YtheafmjdncmpoaaWGuard
import Derived.Test.YtheafmjdncmpoaaWNEv
import Derived.Test.YtheafmjdncmpoaaWMore
namespace Go.Proofs.Ytheafmjdncmpoaa.PQuorumScript
open Go.RowKit Go.Proofs.YtheafmjdncmpoaaW.PrintWords Go.Proofs.YtheafmjdncmpoaaW.PrintLast Go.Proofs.YtheafmjdncmpoaaW.PrintMore
attribute [local go_sem] max2_int min2_int max_two min_two max_three min_three max_four min_four   -- for this text's walks alone
set_option linter.unusedVariables false
set_option linter.unusedSimpArgs false



def errW : Option Int → Value
  | none => .nilIface
  | some c => .iface 0 (.int .i64 c)
theorem errW_none : errW none = .nilIface := rfl
theorem errW_some (c : Int) : errW (some c) = .iface 0 (.int .i64 c) := rfl

theorem info3 : (Try.prog.info? 3).map (fun i => (i.zero, i.size, i.bytes)) = some (some (.int .i64 0), 1, 8) := by kernel_rfl
-- the values' own types

end Go.Proofs.Ytheafmjdncmpoaa.PQuorumScript
