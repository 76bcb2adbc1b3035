/- The pure statement of ridgewaylaw02_PrefixMask, and the walk that follows from it; written by a program of this session's (wip/tools). -/
import Derived.Test.YtckjfplocmbcmaaDoorPAllx19
import Derived.Test.YtckjfplocmbcmaaDoorPAllxg
namespace Go.Proofs.YtckjfplocmbcmaaDoor.PAll
open Go.RowKit Go.Proofs.YtckjfplocmbcmaaDoorW.PrintWords Go.Proofs.YtckjfplocmbcmaaDoorW.PrintLast Go.Proofs.YtckjfplocmbcmaaDoorW.PrintMore
set_option linter.unusedVariables false
def ridgewaylaw02_PrefixMask.Pure : Prop := ∀ (x0 : Int) (x1 : Int) (x2 : Int), g3 x0 → g3 x1 → g3 x2 → ∃ k, ridgewaylaw02_PrefixMask.f k x0 x1 x2 = some true
theorem ridgewaylaw02_PrefixMask.walk (P : ridgewaylaw02_PrefixMask.Pure) (x0 : Int) (x1 : Int) (x2 : Int) (w : World) (hG0 : g3 x0) (hG1 : g3 x1) (hG2 : g3 x2) (hT : Tabs w) :
    Calls Tryd.prog 9 #[.int .i64 x0, .int .i64 x1, .int .i64 x2] w fun e w' => e = .returned (.bool true) ∧ Below w.heap.size w w' := by
  obtain ⟨k, h⟩ := P x0 x1 x2 hG0 hG1 hG2
  refine (ridgewaylaw02_PrefixMask.calls k x0 x1 x2 true w hT h).mono ?_
  rintro e w' ⟨rfl, hd⟩
  exact ⟨rfl, hd⟩
end Go.Proofs.YtckjfplocmbcmaaDoor.PAll
