-- Written by a program of this session.
import Derived.Test.YtfgfdjlimhlcjaaProg
import Derived.Below
import Derived.Deep.Draws
import Derived.Deep.AppendLies
import Derived.Maps.AppendAt
import Derived.OwnWalk
import Derived.Laws.BytesArg
import Derived.Laws.MakeOwn
import Derived.Laws.OwnMore
import Derived.Deep.OwnRows
import Derived.Tactics
import Derived.Lib.ConvBytes
import Derived.Laws.Slices
import Derived.WalkKit
import Derived.KernelRfl
import Derived.RowKit3
import Derived.Deep.LoopGhost
import Derived.Deep.QuietTactic
import Derived.BigQuiet
import Derived.WideLaws
import Derived.Deep.DeepCutAuto
import Derived.Deep.CutBlock
import Derived.Deep.RegionHeld3
import Derived.Laws.Rows
import Derived.Lib.AppendStr
import Derived.ArgAppend
import Derived.Laws.IdiomCopy
import Derived.OrdersHeld
import Derived.Laws.BitsLemmas
import Derived.RowKit
import Derived.Test.YtfgfdjlimhlcjaaHandIx
import Derived.Test.YtfgfdjlimhlcjaaWWords
import Derived.Test.YtfgfdjlimhlcjaaWLast
import Derived.Test.YtfgfdjlimhlcjaaWTab
import Derived.Test.YtfgfdjlimhlcjaaWFour
import Derived.Test.YtfgfdjlimhlcjaaWQPut
import Derived.Test.YtfgfdjlimhlcjaaWApart
import Derived.Test.YtfgfdjlimhlcjaaWArr
import Derived.Test.YtfgfdjlimhlcjaaWZeros
import Derived.Test.YtfgfdjlimhlcjaaWFoot
import Derived.Test.YtfgfdjlimhlcjaaWKept
import Derived.Test.YtfgfdjlimhlcjaaWShare
import Derived.Test.YtfgfdjlimhlcjaaWN
import Derived.Test.YtfgfdjlimhlcjaaWFootNe
import Derived.Test.YtfgfdjlimhlcjaaWAt
import Derived.Test.YtfgfdjlimhlcjaaWEqStruct
import Derived.Test.YtfgfdjlimhlcjaaWRepsOne
import Derived.Test.YtfgfdjlimhlcjaaWInv
import Derived.Test.YtfgfdjlimhlcjaaWInvWords
import Derived.Test.YtfgfdjlimhlcjaaWGuard
import Derived.Test.YtfgfdjlimhlcjaaWNEv
import Derived.Test.YtfgfdjlimhlcjaaWMore
namespace Go.Proofs.Ytfgfdjlimhlcjaa.QCutA
open Go.RowKit Go.Proofs.YtfgfdjlimhlcjaaW.PrintWords Go.Proofs.YtfgfdjlimhlcjaaW.PrintLast Go.Proofs.YtfgfdjlimhlcjaaW.PrintMore
attribute [local go_sem] max2_int min2_int max_two min_two max_three min_three max_four min_four   -- for this text's walks alone
set_option linter.unusedVariables false
set_option linter.unusedSimpArgs false



def errW : Option Int → Value
  | none => .nilIface
  | some c => .iface 0 (.int .i64 c)
theorem errW_none : errW none = .nilIface := rfl
theorem errW_some (c : Int) : errW (some c) = .iface 0 (.int .i64 c) := rfl

-- the values' own types

end Go.Proofs.Ytfgfdjlimhlcjaa.QCutA
