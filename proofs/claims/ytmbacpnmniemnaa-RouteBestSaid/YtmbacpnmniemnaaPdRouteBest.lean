/- The pure statement of ridgewaylaw09_RouteBest, and the walk that follows from it; written by a program of this session's (wip/tools). -/
import Derived.Test.YtmbacpnmniemnaaPAllx10
import Derived.Test.YtmbacpnmniemnaaPAllxg
namespace Go.Proofs.Ytmbacpnmniemnaa.PAll
open Go.RowKit Go.Proofs.YtmbacpnmniemnaaW.PrintWords Go.Proofs.YtmbacpnmniemnaaW.PrintLast Go.Proofs.YtmbacpnmniemnaaW.PrintMore
set_option linter.unusedVariables false
def ridgewaylaw09_RouteBest.Pure : Prop := ∀ (x0 : List (S27)) (x1 : List (S27)), g22 x0 → g22 x1 → ∃ k, ridgewaylaw09_RouteBest.f k x0 x1 = some true
theorem ridgewaylaw09_RouteBest.walk (P : ridgewaylaw09_RouteBest.Pure) (x0 : List (S27)) (A0 : Option Addr) (c0 : Nat) (x1 : List (S27)) (A1 : Option Addr) (c1 : Nat) (w : World) (hl0 : x0.length ≤ c0) (hC0 : Kd.C k27 w A0 x0.length x0) (hG0 : g22 x0) (hl1 : x1.length ≤ c1) (hC1 : Kd.C k27 w A1 x1.length x1) (hG1 : g22 x1) :
    Calls Try.prog 6 #[.slice A0 x0.length c0, .slice A1 x1.length c1] w fun e w' => e = .returned (.bool true) ∧ Below w.heap.size w w' := by
  obtain ⟨k, h⟩ := P x0 x1 hG0 hG1
  refine (ridgewaylaw09_RouteBest.calls k (fun k_ => k_ < w.heap.size) A0 c0 x0 (fun k_ => k_ < w.heap.size) A1 c1 x1 true w (Op.shared_of k27_heap hl0 hC0) (Op.shared_of k27_heap hl1 hC1) h).mono ?_
  rintro e w' ⟨rfl, hd⟩
  exact ⟨rfl, hd⟩
end Go.Proofs.Ytmbacpnmniemnaa.PAll
