/- The good values of the laws' types: what an argument can be; written by a program of this session's (wip/tools). -/
import Derived.Test.YtjelhhmnpodlkaaDoorPAllx0
import Derived.Test.YtjelhhmnpodlkaaDoorOp
namespace Go.Proofs.YtjelhhmnpodlkaaDoor.PAll
open Go.RowKit Go.Proofs.YtjelhhmnpodlkaaDoorW.PrintWords
set_option linter.unusedVariables false
def g3 (a : Int) : Prop := (Lit.int .i64 a).wf = true
theorem o3 : Op.Opens Tryd.prog 3 (Kd.int .i64) g3 := Op.Opens.int Tryd.underlying3
def g5 (a : Int) : Prop := (Lit.int .u8 a).wf = true
theorem o5 : Op.Opens Tryd.prog 5 (Kd.int .u8) g5 := Op.Opens.int Tryd.underlying5
def g22 (xs : List Int) : Prop := xs.length ≤ 9223372036854775807 ∧ xs.length * 1 ≤ 140737488351232 ∧ ∀ x ∈ xs, g5 x
theorem o22 : Op.Opens Tryd.prog 22 (Kd.slice 5 (Kd.int .u8)) g22 := Op.Opens.slice 5 Tryd.underlying22 (by kernel_rfl) (by kernel_rfl) o5
def g24 (x : S24) : Prop := g3 x.f0 ∧ g3 x.f1 ∧ g22 x.f2
theorem o24 : Op.Opens Tryd.prog 24 k24 g24 := Op.Opens.iso (fun x : S24 => (x.f0, x.f1, x.f2)) (fun a => (⟨a.1, a.2.1, a.2.2⟩ : S24)) (fun _ => rfl) (Op.Opens.struct Tryd.underlying24 (by kernel_rfl) (Op.OpensF.cons o3 rfl (by kernel_rfl) (o' := 1) rfl (Op.OpensF.cons o3 rfl (by kernel_rfl) (o' := 2) rfl (Op.OpensF.last o22 rfl (by kernel_rfl)))))
def g26 (x : S26) : Prop := g3 x.f0 ∧ g22 x.f1
theorem o26 : Op.Opens Tryd.prog 26 k26 g26 := Op.Opens.iso (fun x : S26 => (x.f0, x.f1)) (fun a => (⟨a.1, a.2⟩ : S26)) (fun _ => rfl) (Op.Opens.struct Tryd.underlying26 (by kernel_rfl) (Op.OpensF.cons o3 rfl (by kernel_rfl) (o' := 1) rfl (Op.OpensF.last o22 rfl (by kernel_rfl))))
end Go.Proofs.YtjelhhmnpodlkaaDoor.PAll
