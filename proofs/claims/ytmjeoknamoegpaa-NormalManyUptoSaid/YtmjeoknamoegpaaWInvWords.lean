-- words that print.sh laid, without the declarations that this claim does not name (wip/tools/trim.py)
import Derived.Test.YtmjeoknamoegpaaWInv
import Derived.Test.YtmjeoknamoegpaaWFootNe
namespace Go.Proofs.YtmjeoknamoegpaaW.PrintWords
open Go.RowKit
end Go.Proofs.YtmjeoknamoegpaaW.PrintWords
namespace Go.Proofs.YtmjeoknamoegpaaW.PrintLast
section
variable {ops : Array Oper} {a : Act} {o og : Oper} {g : Nat} {t : Tmp} {u : Bool}
end
end Go.Proofs.YtmjeoknamoegpaaW.PrintLast
