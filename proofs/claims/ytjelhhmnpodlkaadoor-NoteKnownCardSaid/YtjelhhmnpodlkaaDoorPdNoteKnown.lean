/- The pure statement of ridgewaylaw05_NoteKnown, and the walk that follows from it; written by a program of this session's (wip/tools). -/
import Derived.Test.YtjelhhmnpodlkaaDoorPAllx6
import Derived.Test.YtjelhhmnpodlkaaDoorPAllxg
namespace Go.Proofs.YtjelhhmnpodlkaaDoor.PAll
open Go.RowKit Go.Proofs.YtjelhhmnpodlkaaDoorW.PrintWords Go.Proofs.YtjelhhmnpodlkaaDoorW.PrintLast Go.Proofs.YtjelhhmnpodlkaaDoorW.PrintMore
set_option linter.unusedVariables false
def ridgewaylaw05_NoteKnown.Pure : Prop := ∀ (x0 : Int) (x1 : Int), g3 x0 → g3 x1 → ∃ k, ridgewaylaw05_NoteKnown.f k x0 x1 = some true
theorem ridgewaylaw05_NoteKnown.walk (P : ridgewaylaw05_NoteKnown.Pure) (x0 : Int) (x1 : Int) (w : World) (hG0 : g3 x0) (hG1 : g3 x1) (hT : Tabs w) :
    Calls Tryd.prog 5 #[.int .i64 x0, .int .i64 x1] w fun e w' => e = .returned (.bool true) ∧ Below w.heap.size w w' := by
  obtain ⟨k, h⟩ := P x0 x1 hG0 hG1
  refine (ridgewaylaw05_NoteKnown.calls k x0 x1 true w hT h).mono ?_
  rintro e w' ⟨rfl, hd⟩
  exact ⟨rfl, hd⟩
end Go.Proofs.YtjelhhmnpodlkaaDoor.PAll
