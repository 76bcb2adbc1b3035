/- The pure statement of ridgewaylaw11_LexBad, and the walk that follows from it; written by a program of this session's (wip/tools). -/
import Derived.Test.YtmohglifmoecnaaDoorPAllx7
import Derived.Test.YtmohglifmoecnaaDoorPAllxg
namespace Go.Proofs.YtmohglifmoecnaaDoor.PAll
open Go.RowKit Go.Proofs.YtmohglifmoecnaaDoorW.PrintWords Go.Proofs.YtmohglifmoecnaaDoorW.PrintLast Go.Proofs.YtmohglifmoecnaaDoorW.PrintMore
set_option linter.unusedVariables false
def ridgewaylaw11_LexBad.Pure : Prop := ∀ (x0 : ByteArray) (x1 : Int) (x2 : ByteArray), g9 x0 → g5 x1 → g9 x2 → ∃ k, ridgewaylaw11_LexBad.f k x0 x1 x2 = some true
theorem ridgewaylaw11_LexBad.walk (P : ridgewaylaw11_LexBad.Pure) (x0 : ByteArray) (x1 : Int) (x2 : ByteArray) (w : World) (hG0 : g9 x0) (hG1 : g5 x1) (hG2 : g9 x2) (hT : Tabs w) :
    Calls Tryd.prog 7 #[.string x0, .int .u8 x1, .string x2] w fun e w' => e = .returned (.bool true) ∧ Below w.heap.size w w' := by
  obtain ⟨k, h⟩ := P x0 x1 x2 hG0 hG1 hG2
  refine (ridgewaylaw11_LexBad.calls k x0 x1 x2 true w hT h).mono ?_
  rintro e w' ⟨rfl, hd⟩
  exact ⟨rfl, hd⟩
end Go.Proofs.YtmohglifmoecnaaDoor.PAll
