/- The pure statement of ridgewaylaw09_RouteIs, and the walk that follows from it; written by a program of this session's (wip/tools). -/
import Derived.Test.YtmbacpnmniemnaaPAllx7
import Derived.Test.YtmbacpnmniemnaaPAllxg
namespace Go.Proofs.Ytmbacpnmniemnaa.PAll
open Go.RowKit Go.Proofs.YtmbacpnmniemnaaW.PrintWords Go.Proofs.YtmbacpnmniemnaaW.PrintLast Go.Proofs.YtmbacpnmniemnaaW.PrintMore
set_option linter.unusedVariables false
def ridgewaylaw09_RouteIs.Pure : Prop := ∀ (x0 : List (S27)) (x1 : S27) (x2 : Int), g22 x0 → g27 x1 → g3 x2 → ∃ k, ridgewaylaw09_RouteIs.f k x0 x1.f0 x1.f1.f0 x1.f1.f1 x1.f1.f2 x1.f1.f3 x1.f2 x2 = some true
theorem ridgewaylaw09_RouteIs.walk (P : ridgewaylaw09_RouteIs.Pure) (x0 : List (S27)) (A0 : Option Addr) (c0 : Nat) (x1 : S27) (cs1 : List Value) (x2 : Int) (w : World) (hl0 : x0.length ≤ c0) (hC0 : Kd.C k27 w A0 x0.length x0) (hG0 : g22 x0) (hK1 : k27.K w x1 cs1) (hG1 : g27 x1) (hG2 : g3 x2) :
    Calls Try.prog 3 #[.slice A0 x0.length c0, .agg cs1.toArray, .int .i64 x2] w fun e w' => e = .returned (.bool true) ∧ Below w.heap.size w w' := by
  obtain ⟨A1_2, c1_2, hcs1, hl1_2, hC1_2⟩ := k27_open hK1
  subst hcs1
  obtain ⟨k, h⟩ := P x0 x1 x2 hG0 hG1 hG2
  refine (ridgewaylaw09_RouteIs.calls k (fun k_ => k_ < w.heap.size) A0 c0 x0 x1.f0 x1.f1.f0 (fun k_ => k_ < w.heap.size) A1_2 c1_2 x1.f1.f1 x1.f1.f2 x1.f1.f3 x1.f2 x2 true w (Op.shared_of k27_heap hl0 hC0) (Op.shared_of (Kd.heap_int .i64) hl1_2 hC1_2) h).mono ?_
  rintro e w' ⟨rfl, hd⟩
  exact ⟨rfl, hd⟩
end Go.Proofs.Ytmbacpnmniemnaa.PAll
