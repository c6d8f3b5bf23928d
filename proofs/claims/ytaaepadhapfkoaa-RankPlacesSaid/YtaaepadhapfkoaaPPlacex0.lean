-- PRINTED BY print.sh 35421559b90ae4d0a3588c463048766b98c2df88dd9212a6774a882060cdf62d: not written by this session
import Derived.Test.YtaaepadhapfkoaaProg
import Derived.Below
import Derived.Deep.Draws
import Derived.Deep.AppendLies
import Derived.Maps.AppendAt
import Derived.OwnWalk
import Derived.Laws.BytesArg
import Derived.Laws.MakeOwn
import Derived.Laws.OwnMore
import Derived.Deep.OwnRows
import Derived.Tactics
import Derived.Lib.ConvBytes
import Derived.Laws.Slices
import Derived.WalkKit
import Derived.KernelRfl
import Derived.RowKit3
import Derived.Deep.LoopGhost
import Derived.Deep.QuietTactic
import Derived.BigQuiet
import Derived.WideLaws
import Derived.Deep.DeepCutAuto
import Derived.Deep.CutBlock
import Derived.Deep.RegionHeld3
import Derived.Laws.Rows
import Derived.Lib.AppendStr
import Derived.ArgAppend
import Derived.Laws.IdiomCopy
import Derived.OrdersHeld
import Derived.Laws.BitsLemmas
import Derived.RowKit
import Derived.Test.YtaaepadhapfkoaaWWords
import Derived.Test.YtaaepadhapfkoaaWLast
import Derived.Test.YtaaepadhapfkoaaWTab
import Derived.Test.YtaaepadhapfkoaaWFour
import Derived.Test.YtaaepadhapfkoaaWQPut
import Derived.Test.YtaaepadhapfkoaaWApart
import Derived.Test.YtaaepadhapfkoaaWArr
import Derived.Test.YtaaepadhapfkoaaWZeros
import Derived.Test.YtaaepadhapfkoaaWFoot
import Derived.Test.YtaaepadhapfkoaaWKept
import Derived.Test.YtaaepadhapfkoaaWShare
import Derived.Test.YtaaepadhapfkoaaWN
import Derived.Test.YtaaepadhapfkoaaWFootNe
import Derived.Test.YtaaepadhapfkoaaWAt
import Derived.Test.YtaaepadhapfkoaaWEqStruct
import Derived.Test.YtaaepadhapfkoaaWRepsOne
import Derived.Test.YtaaepadhapfkoaaWInv
import Derived.Test.YtaaepadhapfkoaaWInvWords
import Derived.Test.YtaaepadhapfkoaaWGuard
import Derived.Test.YtaaepadhapfkoaaWNEv
import Derived.Test.YtaaepadhapfkoaaWMore
namespace Go.Proofs.Ytaaepadhapfkoaa.PPlace
open Go.RowKit Go.Proofs.YtaaepadhapfkoaaW.PrintWords Go.Proofs.YtaaepadhapfkoaaW.PrintLast Go.Proofs.YtaaepadhapfkoaaW.PrintMore
attribute [local go_sem] max2_int min2_int max_two min_two max_three min_three max_four min_four   -- for this text's walks alone
set_option linter.unusedVariables false
set_option linter.unusedSimpArgs false



def errW : Option Int → Value
  | none => .nilIface
  | some c => .iface 0 (.int .i64 c)
theorem errW_none : errW none = .nilIface := rfl
theorem errW_some (c : Int) : errW (some c) = .iface 0 (.int .i64 c) := rfl

theorem info5 : (Try.prog.info? 5).map (fun i => (i.zero, i.size, i.bytes)) = some (some (.int .u8 0), 1, 1) := by kernel_rfl
theorem info129 : (Try.prog.info? 129).map (fun i => (i.zero, i.size, i.bytes)) = some (some (.int .u32 0), 1, 4) := by kernel_rfl
-- the values' own types

end Go.Proofs.Ytaaepadhapfkoaa.PPlace
