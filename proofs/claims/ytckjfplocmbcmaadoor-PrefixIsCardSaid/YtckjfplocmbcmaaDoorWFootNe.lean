-- Words out of the print's, those that this claim uses (wip/tools/trim_words.py). Lean checks them.
import Derived.Test.YtckjfplocmbcmaaDoorWN
namespace Go.Proofs.YtckjfplocmbcmaaDoorW.PrintWords
open Go.RowKit
namespace Kd
section
variable {α : Type} {d : Kd α} {W : World} {g n : Nat} {S ok : Nat → Prop} {A : Option Addr} {ad : Addr} {xs : List α}
end
end Kd
end Go.Proofs.YtckjfplocmbcmaaDoorW.PrintWords
