-- Words out of the print's, those that this claim uses (wip/tools/trim_words.py). Lean checks them.
import Derived.Test.YtckjfplocmbcmaaDoorWInv
import Derived.Test.YtckjfplocmbcmaaDoorWFootNe
namespace Go.Proofs.YtckjfplocmbcmaaDoorW.PrintWords
open Go.RowKit
end Go.Proofs.YtckjfplocmbcmaaDoorW.PrintWords
namespace Go.Proofs.YtckjfplocmbcmaaDoorW.PrintLast
section
variable {ops : Array Oper} {a : Act} {o og : Oper} {g : Nat} {t : Tmp} {u : Bool}
end
end Go.Proofs.YtckjfplocmbcmaaDoorW.PrintLast
