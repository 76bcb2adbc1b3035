/- The pure statement of ridgewaylaw02_PrefixText, and the walk that follows from it; written by a program of this session's (wip/tools). -/
import Derived.Test.YtckjfplocmbcmaaDoorPAllx17
import Derived.Test.YtckjfplocmbcmaaDoorPAllxg
namespace Go.Proofs.YtckjfplocmbcmaaDoor.PAll
open Go.RowKit Go.Proofs.YtckjfplocmbcmaaDoorW.PrintWords Go.Proofs.YtckjfplocmbcmaaDoorW.PrintLast Go.Proofs.YtckjfplocmbcmaaDoorW.PrintMore
set_option linter.unusedVariables false
def ridgewaylaw02_PrefixText.Pure : Prop := ∀ (x0 : S23) (x1 : ByteArray), g23 x0 → g9 x1 → ∃ k, ridgewaylaw02_PrefixText.f k x0.f0 x0.f1 x1 = some true
theorem ridgewaylaw02_PrefixText.walk (P : ridgewaylaw02_PrefixText.Pure) (x0 : S23) (cs0 : List Value) (x1 : ByteArray) (w : World) (hK0 : k23.K w x0 cs0) (hG0 : g23 x0) (hG1 : g9 x1) (hT : Tabs w) :
    Calls Tryd.prog 6 #[.agg cs0.toArray, .string x1] w fun e w' => e = .returned (.bool true) ∧ Below w.heap.size w w' := by
  have hcs0 := k23_open hK0
  subst hcs0
  obtain ⟨k, h⟩ := P x0 x1 hG0 hG1
  refine (ridgewaylaw02_PrefixText.calls k x0.f0 x0.f1 x1 true w hT h).mono ?_
  rintro e w' ⟨rfl, hd⟩
  exact ⟨rfl, hd⟩
end Go.Proofs.YtckjfplocmbcmaaDoor.PAll
