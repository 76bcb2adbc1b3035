/- The good values of the laws' types: what an argument can be; written by a program of this session's (wip/tools). -/
import Derived.Test.YtckjfplocmbcmaaDoorPAllx0
import Derived.Test.YtckjfplocmbcmaaDoorOp
namespace Go.Proofs.YtckjfplocmbcmaaDoor.PAll
open Go.RowKit Go.Proofs.YtckjfplocmbcmaaDoorW.PrintWords
set_option linter.unusedVariables false
def g3 (a : Int) : Prop := (Lit.int .i64 a).wf = true
theorem o3 : Op.Opens Tryd.prog 3 (Kd.int .i64) g3 := Op.Opens.int Tryd.underlying3
def g23 (x : S23) : Prop := g3 x.f0 ∧ g3 x.f1
theorem o23 : Op.Opens Tryd.prog 23 k23 g23 := Op.Opens.iso (fun x : S23 => (x.f0, x.f1)) (fun a => (⟨a.1, a.2⟩ : S23)) (fun _ => rfl) (Op.Opens.struct Tryd.underlying23 (by kernel_rfl) (Op.OpensF.cons o3 rfl (by kernel_rfl) (o' := 1) rfl (Op.OpensF.last o3 rfl (by kernel_rfl))))
def g5 (a : Int) : Prop := (Lit.int .u8 a).wf = true
theorem o5 : Op.Opens Tryd.prog 5 (Kd.int .u8) g5 := Op.Opens.int Tryd.underlying5
def g24 (xs : List Int) : Prop := xs.length ≤ 9223372036854775807 ∧ xs.length * 1 ≤ 140737488351232 ∧ ∀ x ∈ xs, g5 x
theorem o24 : Op.Opens Tryd.prog 24 (Kd.slice 5 (Kd.int .u8)) g24 := Op.Opens.slice 5 Tryd.underlying24 (by kernel_rfl) (by kernel_rfl) o5
def g9 (a : ByteArray) : Prop := a.size ≤ 140737488351232
theorem o9 : Op.Opens Tryd.prog 9 Kd.string g9 := Op.Opens.string Tryd.underlying9
def g28 (xs : List (S23)) : Prop := xs.length ≤ 9223372036854775807 ∧ xs.length * 16 ≤ 140737488351232 ∧ ∀ x ∈ xs, g23 x
theorem o28 : Op.Opens Tryd.prog 28 (Kd.slice 23 k23) g28 := Op.Opens.slice 23 Tryd.underlying28 (by kernel_rfl) (by kernel_rfl) o23
end Go.Proofs.YtckjfplocmbcmaaDoor.PAll
