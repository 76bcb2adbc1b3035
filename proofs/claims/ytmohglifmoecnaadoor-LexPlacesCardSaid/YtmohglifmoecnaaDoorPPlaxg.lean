/- The good values of the laws' types: what an argument can be; written by a program of this session's (wip/tools). -/
import Derived.Test.YtmohglifmoecnaaDoorPPlax0
import Derived.Test.YtmohglifmoecnaaDoorOp
namespace Go.Proofs.YtmohglifmoecnaaDoor.PPla
open Go.RowKit Go.Proofs.YtmohglifmoecnaaDoorW.PrintWords
set_option linter.unusedVariables false
def g9 (a : ByteArray) : Prop := a.size ≤ 140737488351232
theorem o9 : Op.Opens Tryd.prog 9 Kd.string g9 := Op.Opens.string Tryd.underlying9
end Go.Proofs.YtmohglifmoecnaaDoor.PPla
