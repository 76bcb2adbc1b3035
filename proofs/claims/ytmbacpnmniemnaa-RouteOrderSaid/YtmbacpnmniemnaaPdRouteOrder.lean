/- The pure statement of ridgewaylaw09_RouteOrder, and the walk that follows from it; written by a program of this session's (wip/tools). -/
import Derived.Test.YtmbacpnmniemnaaPAllx8
import Derived.Test.YtmbacpnmniemnaaPAllxg
namespace Go.Proofs.Ytmbacpnmniemnaa.PAll
open Go.RowKit Go.Proofs.YtmbacpnmniemnaaW.PrintWords Go.Proofs.YtmbacpnmniemnaaW.PrintLast Go.Proofs.YtmbacpnmniemnaaW.PrintMore
set_option linter.unusedVariables false
def ridgewaylaw09_RouteOrder.Pure : Prop := ∀ (x0 : S27) (x1 : S27) (x2 : S27), g27 x0 → g27 x1 → g27 x2 → ∃ k, ridgewaylaw09_RouteOrder.f k x0.f0 x0.f1.f0 x0.f1.f1 x0.f1.f2 x0.f1.f3 x0.f2 x1.f0 x1.f1.f0 x1.f1.f1 x1.f1.f2 x1.f1.f3 x1.f2 x2.f0 x2.f1.f0 x2.f1.f1 x2.f1.f2 x2.f1.f3 x2.f2 = some true
theorem ridgewaylaw09_RouteOrder.walk (P : ridgewaylaw09_RouteOrder.Pure) (x0 : S27) (cs0 : List Value) (x1 : S27) (cs1 : List Value) (x2 : S27) (cs2 : List Value) (w : World) (hK0 : k27.K w x0 cs0) (hG0 : g27 x0) (hK1 : k27.K w x1 cs1) (hG1 : g27 x1) (hK2 : k27.K w x2 cs2) (hG2 : g27 x2) :
    Calls Try.prog 4 #[.agg cs0.toArray, .agg cs1.toArray, .agg cs2.toArray] w fun e w' => e = .returned (.bool true) ∧ Below w.heap.size w w' := by
  obtain ⟨A0_2, c0_2, hcs0, hl0_2, hC0_2⟩ := k27_open hK0
  subst hcs0
  obtain ⟨A1_2, c1_2, hcs1, hl1_2, hC1_2⟩ := k27_open hK1
  subst hcs1
  obtain ⟨A2_2, c2_2, hcs2, hl2_2, hC2_2⟩ := k27_open hK2
  subst hcs2
  obtain ⟨k, h⟩ := P x0 x1 x2 hG0 hG1 hG2
  refine (ridgewaylaw09_RouteOrder.calls k x0.f0 x0.f1.f0 (fun k_ => k_ < w.heap.size) A0_2 c0_2 x0.f1.f1 x0.f1.f2 x0.f1.f3 x0.f2 x1.f0 x1.f1.f0 (fun k_ => k_ < w.heap.size) A1_2 c1_2 x1.f1.f1 x1.f1.f2 x1.f1.f3 x1.f2 x2.f0 x2.f1.f0 (fun k_ => k_ < w.heap.size) A2_2 c2_2 x2.f1.f1 x2.f1.f2 x2.f1.f3 x2.f2 true w (Op.shared_of (Kd.heap_int .i64) hl0_2 hC0_2) (Op.shared_of (Kd.heap_int .i64) hl1_2 hC1_2) (Op.shared_of (Kd.heap_int .i64) hl2_2 hC2_2) h).mono ?_
  rintro e w' ⟨rfl, hd⟩
  exact ⟨rfl, hd⟩
end Go.Proofs.Ytmbacpnmniemnaa.PAll
