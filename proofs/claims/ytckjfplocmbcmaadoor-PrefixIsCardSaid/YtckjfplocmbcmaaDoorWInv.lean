-- Words out of the print's, those that this claim uses (wip/tools/trim_words.py). Lean checks them.
import Derived.Test.YtckjfplocmbcmaaDoorWTab
namespace Go.Proofs.YtckjfplocmbcmaaDoorW.PrintLast
def up (b : Nat → Bool) (i : Nat) : Nat → Bool := fun j => if j = i then true else b j
section
variable {P : Program} {ops : Array Oper} {Q : Exit → Act → World → Prop} {md : Region.Mode} {T : Bool × List (List Nat × List Nat)} {B : List Nat} {O : List Nat} {b : Nat → Bool} {i j n : Nat}
end
end Go.Proofs.YtckjfplocmbcmaaDoorW.PrintLast
