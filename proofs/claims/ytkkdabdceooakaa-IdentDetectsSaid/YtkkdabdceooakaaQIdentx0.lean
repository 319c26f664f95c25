-- Written by a program of this session.
import Derived.Test.YtkkdabdceooakaaProg
import Derived.Below
import Derived.Deep.Draws
import Derived.Deep.AppendLies
import Derived.Maps.AppendAt
import Derived.OwnWalk
import Derived.Laws.BytesArg
import Derived.Laws.MakeOwn
import Derived.Laws.OwnMore
import Derived.Deep.OwnRows
import Derived.Tactics
import Derived.Lib.ConvBytes
import Derived.Laws.Slices
import Derived.WalkKit
import Derived.KernelRfl
import Derived.RowKit3
import Derived.Deep.LoopGhost
import Derived.Deep.QuietTactic
import Derived.BigQuiet
import Derived.WideLaws
import Derived.Deep.DeepCutAuto
import Derived.Deep.CutBlock
import Derived.Deep.RegionHeld3
import Derived.Laws.Rows
import Derived.Lib.AppendStr
import Derived.ArgAppend
import Derived.Laws.IdiomCopy
import Derived.OrdersHeld
import Derived.Laws.BitsLemmas
import Derived.RowKit
import Derived.Test.YtkkdabdceooakaaHand
import Derived.Test.YtkkdabdceooakaaWWords
import Derived.Test.YtkkdabdceooakaaWLast
import Derived.Test.YtkkdabdceooakaaWTab
import Derived.Test.YtkkdabdceooakaaWFour
import Derived.Test.YtkkdabdceooakaaWQPut
import Derived.Test.YtkkdabdceooakaaWApart
import Derived.Test.YtkkdabdceooakaaWArr
import Derived.Test.YtkkdabdceooakaaWZeros
import Derived.Test.YtkkdabdceooakaaWFoot
import Derived.Test.YtkkdabdceooakaaWKept
import Derived.Test.YtkkdabdceooakaaWShare
import Derived.Test.YtkkdabdceooakaaWN
import Derived.Test.YtkkdabdceooakaaWFootNe
import Derived.Test.YtkkdabdceooakaaWAt
import Derived.Test.YtkkdabdceooakaaWEqStruct
import Derived.Test.YtkkdabdceooakaaWRepsOne
import Derived.Test.YtkkdabdceooakaaWInv
import Derived.Test.YtkkdabdceooakaaWInvWords
import Derived.Test.YtkkdabdceooakaaWGuard
import Derived.Test.YtkkdabdceooakaaWNEv
import Derived.Test.YtkkdabdceooakaaWMore
namespace Go.Proofs.Ytkkdabdceooakaa.QIdent
open Go.RowKit Go.Proofs.YtkkdabdceooakaaW.PrintWords Go.Proofs.YtkkdabdceooakaaW.PrintLast Go.Proofs.YtkkdabdceooakaaW.PrintMore
attribute [local go_sem] max2_int min2_int max_two min_two max_three min_three max_four min_four   -- for this text's walks alone
set_option linter.unusedVariables false
set_option linter.unusedSimpArgs false



def errW : Option Int → Value
  | none => .nilIface
  | some c => .iface 0 (.int .i64 c)
theorem errW_none : errW none = .nilIface := rfl
theorem errW_some (c : Int) : errW (some c) = .iface 0 (.int .i64 c) := rfl

theorem info5 : (Try.prog.info? 5).map (fun i => (i.zero, i.size, i.bytes)) = some (some (.int .u8 0), 1, 1) := by kernel_rfl
-- the values' own types

end Go.Proofs.Ytkkdabdceooakaa.QIdent
