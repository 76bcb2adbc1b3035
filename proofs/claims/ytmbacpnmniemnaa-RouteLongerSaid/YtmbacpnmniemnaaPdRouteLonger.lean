/- The pure statement of ridgewaylaw09_RouteLonger, and the walk that follows from it; written by a program of this session's (wip/tools). -/
import Derived.Test.YtmbacpnmniemnaaPAllx11
import Derived.Test.YtmbacpnmniemnaaPAllxg
namespace Go.Proofs.Ytmbacpnmniemnaa.PAll
open Go.RowKit Go.Proofs.YtmbacpnmniemnaaW.PrintWords Go.Proofs.YtmbacpnmniemnaaW.PrintLast Go.Proofs.YtmbacpnmniemnaaW.PrintMore
set_option linter.unusedVariables false
def ridgewaylaw09_RouteLonger.Pure : Prop := ∀ (x0 : S27) (x1 : Int) (x2 : Int) (x3 : Int), g27 x0 → g3 x1 → g3 x2 → g3 x3 → ∃ k, ridgewaylaw09_RouteLonger.f k x0.f0 x0.f1.f0 x0.f1.f1 x0.f1.f2 x0.f1.f3 x0.f2 x1 x2 x3 = some true
theorem ridgewaylaw09_RouteLonger.walk (P : ridgewaylaw09_RouteLonger.Pure) (x0 : S27) (cs0 : List Value) (x1 : Int) (x2 : Int) (x3 : Int) (w : World) (hK0 : k27.K w x0 cs0) (hG0 : g27 x0) (hG1 : g3 x1) (hG2 : g3 x2) (hG3 : g3 x3) :
    Calls Try.prog 7 #[.agg cs0.toArray, .int .i64 x1, .int .i64 x2, .int .i64 x3] w fun e w' => e = .returned (.bool true) ∧ Below w.heap.size w w' := by
  obtain ⟨A0_2, c0_2, hcs0, hl0_2, hC0_2⟩ := k27_open hK0
  subst hcs0
  obtain ⟨k, h⟩ := P x0 x1 x2 x3 hG0 hG1 hG2 hG3
  refine (ridgewaylaw09_RouteLonger.calls k x0.f0 x0.f1.f0 A0_2 c0_2 x0.f1.f1 x0.f1.f2 x0.f1.f3 x0.f2 x1 x2 x3 true w hC0_2 hl0_2 h).mono ?_
  rintro e w' ⟨rfl, hd⟩
  exact ⟨rfl, hd⟩
end Go.Proofs.Ytmbacpnmniemnaa.PAll
