-- laid by print.py over an altered print (wip/tools/pr.py); the walks of the altered functions are by hand
import Derived.Test.YtbmelglpcdidcaaProg
import Derived.Below
import Derived.WalkSpells
import Derived.Lib.SlBytesConst
import Derived.Lib.SmallJoins
import Derived.Deep.Draws
import Derived.Deep.AppendLies
import Derived.Maps.AppendAt
import Derived.OwnWalk
import Derived.Laws.BytesArg
import Derived.Laws.MakeOwn
import Derived.Laws.OwnMore
import Derived.Deep.OwnRows
import Derived.Tactics
import Derived.Lib.ConvBytes
import Derived.Laws.Slices
import Derived.WalkKit
import Derived.KernelRfl
import Derived.RowKit3
import Derived.Deep.LoopGhost
import Derived.Deep.QuietTactic
import Derived.BigQuiet
import Derived.WideLaws
import Derived.Deep.DeepCutAuto
import Derived.Deep.CutBlock
import Derived.Deep.RegionHeld3
import Derived.Laws.Rows
import Derived.Lib.AppendStr
import Derived.ArgAppend
import Derived.Laws.IdiomCopy
import Derived.OrdersHeld
import Derived.Laws.BitsLemmas
import Derived.RowKit
import Derived.Test.YtbmelglpcdidcaaWWords
import Derived.Test.YtbmelglpcdidcaaWLast
import Derived.Test.YtbmelglpcdidcaaWTab
import Derived.Test.YtbmelglpcdidcaaWFour
import Derived.Test.YtbmelglpcdidcaaWQPut
import Derived.Test.YtbmelglpcdidcaaWApart
import Derived.Test.YtbmelglpcdidcaaWArr
import Derived.Test.YtbmelglpcdidcaaWZeros
import Derived.Test.YtbmelglpcdidcaaWFoot
import Derived.Test.YtbmelglpcdidcaaWKept
import Derived.Test.YtbmelglpcdidcaaWShare
import Derived.Test.YtbmelglpcdidcaaWN
import Derived.Test.YtbmelglpcdidcaaWFootNe
import Derived.Test.YtbmelglpcdidcaaWAt
import Derived.Test.YtbmelglpcdidcaaWEqStruct
import Derived.Test.YtbmelglpcdidcaaWRepsOne
import Derived.Test.YtbmelglpcdidcaaWInv
import Derived.Test.YtbmelglpcdidcaaWInvWords
import Derived.Test.YtbmelglpcdidcaaWGuard
import Derived.Test.YtbmelglpcdidcaaWNEv
import Derived.Test.YtbmelglpcdidcaaWMore
namespace Go.Proofs.Ytbmelglpcdidcaa.P
open Go.RowKit Go.Proofs.YtbmelglpcdidcaaW.PrintWords Go.Proofs.YtbmelglpcdidcaaW.PrintLast Go.Proofs.YtbmelglpcdidcaaW.PrintMore
attribute [local go_sem] max2_int min2_int max_two min_two max_three min_three max_four min_four   -- for this text's walks alone
set_option linter.unusedVariables false
set_option linter.unusedSimpArgs false



def errW : Option Int → Value
  | none => .nilIface
  | some c => .iface 0 (.int .i64 c)
theorem errW_none : errW none = .nilIface := rfl
theorem errW_some (c : Int) : errW (some c) = .iface 0 (.int .i64 c) := rfl

theorem info5 : (Try.prog.info? 5).map (fun i => (i.zero, i.size, i.bytes)) = some (some (.int .u8 0), 1, 1) := by kernel_rfl
-- the values' own types

end Go.Proofs.Ytbmelglpcdidcaa.P
