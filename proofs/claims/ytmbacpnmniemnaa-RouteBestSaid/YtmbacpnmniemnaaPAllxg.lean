/- The good values of the laws' types: what an argument can be; written by a program of this session's (wip/tools). -/
import Derived.Test.YtmbacpnmniemnaaPAllx0
import Derived.Test.YtmbacpnmniemnaaOp
namespace Go.Proofs.Ytmbacpnmniemnaa.PAll
open Go.RowKit Go.Proofs.YtmbacpnmniemnaaW.PrintWords
set_option linter.unusedVariables false
def g3 (a : Int) : Prop := (Lit.int .i64 a).wf = true
theorem o3 : Op.Opens Try.prog 3 (Kd.int .i64) g3 := Op.Opens.int Try.underlying3
def g23 (xs : List Int) : Prop := xs.length ≤ 9223372036854775807 ∧ xs.length * 8 ≤ 140737488351232 ∧ ∀ x ∈ xs, g3 x
theorem o23 : Op.Opens Try.prog 23 (Kd.slice 3 (Kd.int .i64)) g23 := Op.Opens.slice 3 Try.underlying23 (by kernel_rfl) (by kernel_rfl) o3
def g25 (x : S25) : Prop := g3 x.f0 ∧ g23 x.f1 ∧ g3 x.f2 ∧ g3 x.f3
theorem o25 : Op.Opens Try.prog 25 k25 g25 := Op.Opens.iso (fun x : S25 => (x.f0, x.f1, x.f2, x.f3)) (fun a => (⟨a.1, a.2.1, a.2.2.1, a.2.2.2⟩ : S25)) (fun _ => rfl) (Op.Opens.struct Try.underlying25 (by kernel_rfl) (Op.OpensF.cons o3 rfl (by kernel_rfl) (o' := 1) rfl (Op.OpensF.cons o23 rfl (by kernel_rfl) (o' := 2) rfl (Op.OpensF.cons o3 rfl (by kernel_rfl) (o' := 3) rfl (Op.OpensF.last o3 rfl (by kernel_rfl))))))
def g27 (x : S27) : Prop := g3 x.f0 ∧ g25 x.f1 ∧ g3 x.f2
theorem o27 : Op.Opens Try.prog 27 k27 g27 := Op.Opens.iso (fun x : S27 => (x.f0, x.f1, x.f2)) (fun a => (⟨a.1, a.2.1, a.2.2⟩ : S27)) (fun _ => rfl) (Op.Opens.struct Try.underlying27 (by kernel_rfl) (Op.OpensF.cons o3 rfl (by kernel_rfl) (o' := 1) rfl (Op.OpensF.cons o25 rfl (by kernel_rfl) (o' := 5) rfl (Op.OpensF.last o3 rfl (by kernel_rfl)))))
def g22 (xs : List (S27)) : Prop := xs.length ≤ 9223372036854775807 ∧ xs.length * 64 ≤ 140737488351232 ∧ ∀ x ∈ xs, g27 x
theorem o22 : Op.Opens Try.prog 22 (Kd.slice 27 k27) g22 := Op.Opens.slice 27 Try.underlying22 (by kernel_rfl) (by kernel_rfl) o27
end Go.Proofs.Ytmbacpnmniemnaa.PAll
