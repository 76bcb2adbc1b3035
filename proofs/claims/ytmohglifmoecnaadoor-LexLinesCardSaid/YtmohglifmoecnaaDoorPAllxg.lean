/- The good values of the laws' types: what an argument can be; written by a program of this session's (wip/tools). -/
import Derived.Test.YtmohglifmoecnaaDoorPAllx0
import Derived.Test.YtmohglifmoecnaaDoorOp
namespace Go.Proofs.YtmohglifmoecnaaDoor.PAll
open Go.RowKit Go.Proofs.YtmohglifmoecnaaDoorW.PrintWords
set_option linter.unusedVariables false
def g9 (a : ByteArray) : Prop := a.size ≤ 140737488351232
theorem o9 : Op.Opens Tryd.prog 9 Kd.string g9 := Op.Opens.string Tryd.underlying9
def g3 (a : Int) : Prop := (Lit.int .i64 a).wf = true
theorem o3 : Op.Opens Tryd.prog 3 (Kd.int .i64) g3 := Op.Opens.int Tryd.underlying3
def g32 (x : S32) : Prop := g3 x.f0 ∧ g3 x.f1 ∧ g9 x.f2
theorem o32 : Op.Opens Tryd.prog 32 k32 g32 := Op.Opens.iso (fun x : S32 => (x.f0, x.f1, x.f2)) (fun a => (⟨a.1, a.2.1, a.2.2⟩ : S32)) (fun _ => rfl) (Op.Opens.struct Tryd.underlying32 (by kernel_rfl) (Op.OpensF.cons o3 rfl (by kernel_rfl) (o' := 1) rfl (Op.OpensF.cons o3 rfl (by kernel_rfl) (o' := 2) rfl (Op.OpensF.last o9 rfl (by kernel_rfl)))))
def g22 (xs : List (S32)) : Prop := xs.length ≤ 9223372036854775807 ∧ xs.length * 32 ≤ 140737488351232 ∧ ∀ x ∈ xs, g32 x
theorem o22 : Op.Opens Tryd.prog 22 (Kd.slice 32 k32) g22 := Op.Opens.slice 32 Tryd.underlying22 (by kernel_rfl) (by kernel_rfl) o32
def g5 (a : Int) : Prop := (Lit.int .u8 a).wf = true
theorem o5 : Op.Opens Tryd.prog 5 (Kd.int .u8) g5 := Op.Opens.int Tryd.underlying5
end Go.Proofs.YtmohglifmoecnaaDoor.PAll
