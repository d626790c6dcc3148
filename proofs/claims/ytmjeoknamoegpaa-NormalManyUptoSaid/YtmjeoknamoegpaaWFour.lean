-- words that print.sh laid, without the declarations that this claim does not name (wip/tools/trim.py)
import Derived.Test.YtmjeoknamoegpaaWTab
/-! ### 56. Four, five, six operations that may come up next, in any order -/
namespace Go.Proofs.YtmjeoknamoegpaaW.PrintLast
section
variable {P : Program} {ops : Array Oper} {Q : Exit → Act → World → Prop} {md : Region.Mode} {S : World → Prop} {ds : List Nat} {T : Bool × List (List Nat × List Nat)}
end
end Go.Proofs.YtmjeoknamoegpaaW.PrintLast
