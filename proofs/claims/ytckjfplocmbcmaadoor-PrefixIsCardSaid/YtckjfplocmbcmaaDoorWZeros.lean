-- Words out of the print's, those that this claim uses (wip/tools/trim_words.py). Lean checks them.
import Derived.Test.YtckjfplocmbcmaaDoorWApart
import Derived.Test.YtckjfplocmbcmaaDoorWArr
namespace Go.Proofs.YtckjfplocmbcmaaDoorW.PrintWords
open Go.RowKit
section
variable {P : Program}
end
namespace Kd
section
variable {P : Program} {ops : Array Oper} {rest : List Oper} {o : Oper} {a : Act} {Q : Exit → Act → World → Prop} {Kc : Act → World → Prop} {α : Type}
end
section
variable {α : Type} {d : Kd α} {e : Nat} {w : World} {base : Nat} {ok : Nat → Prop} {v : Value} {xs : List α}
end
section
variable {P : Program} {ops : Array Oper} {rest : List Oper} {o : Oper} {a : Act} {Q : Exit → Act → World → Prop} {Kc : Act → World → Prop} {α : Type}
end
end Kd
end Go.Proofs.YtckjfplocmbcmaaDoorW.PrintWords
