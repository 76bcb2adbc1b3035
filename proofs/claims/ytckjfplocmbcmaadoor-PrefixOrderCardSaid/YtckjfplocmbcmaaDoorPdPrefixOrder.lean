/- The pure statement of ridgewaylaw02_PrefixOrder, and the walk that follows from it; written by a program of this session's (wip/tools). -/
import Derived.Test.YtckjfplocmbcmaaDoorPAllx19
import Derived.Test.YtckjfplocmbcmaaDoorPAllxg
namespace Go.Proofs.YtckjfplocmbcmaaDoor.PAll
open Go.RowKit Go.Proofs.YtckjfplocmbcmaaDoorW.PrintWords Go.Proofs.YtckjfplocmbcmaaDoorW.PrintLast Go.Proofs.YtckjfplocmbcmaaDoorW.PrintMore
set_option linter.unusedVariables false
def ridgewaylaw02_PrefixOrder.Pure : Prop := ∀ (x0 : S23) (x1 : S23) (x2 : S23), g23 x0 → g23 x1 → g23 x2 → ∃ k, ridgewaylaw02_PrefixOrder.f k x0.f0 x0.f1 x1.f0 x1.f1 x2.f0 x2.f1 = some true
theorem ridgewaylaw02_PrefixOrder.walk (P : ridgewaylaw02_PrefixOrder.Pure) (x0 : S23) (cs0 : List Value) (x1 : S23) (cs1 : List Value) (x2 : S23) (cs2 : List Value) (w : World) (hK0 : k23.K w x0 cs0) (hG0 : g23 x0) (hK1 : k23.K w x1 cs1) (hG1 : g23 x1) (hK2 : k23.K w x2 cs2) (hG2 : g23 x2) (hT : Tabs w) :
    Calls Tryd.prog 8 #[.agg cs0.toArray, .agg cs1.toArray, .agg cs2.toArray] w fun e w' => e = .returned (.bool true) ∧ Below w.heap.size w w' := by
  have hcs0 := k23_open hK0
  subst hcs0
  have hcs1 := k23_open hK1
  subst hcs1
  have hcs2 := k23_open hK2
  subst hcs2
  obtain ⟨k, h⟩ := P x0 x1 x2 hG0 hG1 hG2
  refine (ridgewaylaw02_PrefixOrder.calls k x0.f0 x0.f1 x1.f0 x1.f1 x2.f0 x2.f1 true w hT h).mono ?_
  rintro e w' ⟨rfl, hd⟩
  exact ⟨rfl, hd⟩
end Go.Proofs.YtckjfplocmbcmaaDoor.PAll
