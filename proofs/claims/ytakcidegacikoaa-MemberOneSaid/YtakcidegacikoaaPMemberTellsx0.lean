-- PRINTED BY print.sh 35421559b90ae4d0a3588c463048766b98c2df88dd9212a6774a882060cdf62d: not written by this session
import Derived.Test.YtakcidegacikoaaProg
import Derived.Below
import Derived.Deep.Draws
import Derived.Deep.AppendLies
import Derived.Maps.AppendAt
import Derived.OwnWalk
import Derived.Laws.BytesArg
import Derived.Laws.MakeOwn
import Derived.Laws.OwnMore
import Derived.Deep.OwnRows
import Derived.Tactics
import Derived.Lib.ConvBytes
import Derived.Laws.Slices
import Derived.WalkKit
import Derived.KernelRfl
import Derived.RowKit3
import Derived.Deep.LoopGhost
import Derived.Deep.QuietTactic
import Derived.BigQuiet
import Derived.WideLaws
import Derived.Deep.DeepCutAuto
import Derived.Deep.CutBlock
import Derived.Deep.RegionHeld3
import Derived.Laws.Rows
import Derived.Lib.AppendStr
import Derived.ArgAppend
import Derived.Laws.IdiomCopy
import Derived.OrdersHeld
import Derived.Laws.BitsLemmas
import Derived.RowKit
import Derived.Test.YtakcidegacikoaaWWords
import Derived.Test.YtakcidegacikoaaWLast
import Derived.Test.YtakcidegacikoaaWTab
import Derived.Test.YtakcidegacikoaaWFour
import Derived.Test.YtakcidegacikoaaWQPut
import Derived.Test.YtakcidegacikoaaWApart
import Derived.Test.YtakcidegacikoaaWArr
import Derived.Test.YtakcidegacikoaaWZeros
import Derived.Test.YtakcidegacikoaaWFoot
import Derived.Test.YtakcidegacikoaaWKept
import Derived.Test.YtakcidegacikoaaWShare
import Derived.Test.YtakcidegacikoaaWN
import Derived.Test.YtakcidegacikoaaWFootNe
import Derived.Test.YtakcidegacikoaaWAt
import Derived.Test.YtakcidegacikoaaWEqStruct
import Derived.Test.YtakcidegacikoaaWRepsOne
import Derived.Test.YtakcidegacikoaaWInv
import Derived.Test.YtakcidegacikoaaWInvWords
import Derived.Test.YtakcidegacikoaaWGuard
import Derived.Test.YtakcidegacikoaaWNEv
import Derived.Test.YtakcidegacikoaaWMore
namespace Go.Proofs.Ytakcidegacikoaa.PMemberTells
open Go.RowKit Go.Proofs.YtakcidegacikoaaW.PrintWords Go.Proofs.YtakcidegacikoaaW.PrintLast Go.Proofs.YtakcidegacikoaaW.PrintMore
attribute [local go_sem] max2_int min2_int max_two min_two max_three min_three max_four min_four   -- for this text's walks alone
set_option linter.unusedVariables false
set_option linter.unusedSimpArgs false



def errW : Option Int → Value
  | none => .nilIface
  | some c => .iface 0 (.int .i64 c)
theorem errW_none : errW none = .nilIface := rfl
theorem errW_some (c : Int) : errW (some c) = .iface 0 (.int .i64 c) := rfl

theorem info3 : (Try.prog.info? 3).map (fun i => (i.zero, i.size, i.bytes)) = some (some (.int .i64 0), 1, 8) := by kernel_rfl
-- the values' own types

end Go.Proofs.Ytakcidegacikoaa.PMemberTells
