/- The pure statement of ridgewaylaw11_LexLines, and the walk that follows from it; written by a program of this session's (wip/tools). -/
import Derived.Test.YtmohglifmoecnaaDoorPAllx8
import Derived.Test.YtmohglifmoecnaaDoorPAllxg
namespace Go.Proofs.YtmohglifmoecnaaDoor.PAll
open Go.RowKit Go.Proofs.YtmohglifmoecnaaDoorW.PrintWords Go.Proofs.YtmohglifmoecnaaDoorW.PrintLast Go.Proofs.YtmohglifmoecnaaDoorW.PrintMore
set_option linter.unusedVariables false
def ridgewaylaw11_LexLines.Pure : Prop := ∀ (x0 : ByteArray) (x1 : ByteArray), g9 x0 → g9 x1 → ∃ k, ridgewaylaw11_LexLines.f k x0 x1 = some true
theorem ridgewaylaw11_LexLines.walk (P : ridgewaylaw11_LexLines.Pure) (x0 : ByteArray) (x1 : ByteArray) (w : World) (hG0 : g9 x0) (hG1 : g9 x1) (hT : Tabs w) :
    Calls Tryd.prog 8 #[.string x0, .string x1] w fun e w' => e = .returned (.bool true) ∧ Below w.heap.size w w' := by
  obtain ⟨k, h⟩ := P x0 x1 hG0 hG1
  refine (ridgewaylaw11_LexLines.calls k x0 x1 true w hT h).mono ?_
  rintro e w' ⟨rfl, hd⟩
  exact ⟨rfl, hd⟩
end Go.Proofs.YtmohglifmoecnaaDoor.PAll
