/- The pure statement of ridgewaylaw11_LexPlaces, and the walk that follows from it; written by a program of this session's (wip/tools). -/
import Derived.Test.YtmohglifmoecnaaDoorPPlax4
import Derived.Test.YtmohglifmoecnaaDoorPPlaxg
namespace Go.Proofs.YtmohglifmoecnaaDoor.PPla
open Go.RowKit Go.Proofs.YtmohglifmoecnaaDoorW.PrintWords Go.Proofs.YtmohglifmoecnaaDoorW.PrintLast Go.Proofs.YtmohglifmoecnaaDoorW.PrintMore
set_option linter.unusedVariables false
def ridgewaylaw11_LexPlaces.Pure : Prop := ∀ (x0 : ByteArray), g9 x0 → ∃ k, ridgewaylaw11_LexPlaces.f k x0 = some true
theorem ridgewaylaw11_LexPlaces.walk (P : ridgewaylaw11_LexPlaces.Pure) (x0 : ByteArray) (w : World) (hG0 : g9 x0) (hT : Tabs w) :
    Calls Tryd.prog 5 #[.string x0] w fun e w' => e = .returned (.bool true) ∧ Below w.heap.size w w' := by
  obtain ⟨k, h⟩ := P x0 hG0
  refine (ridgewaylaw11_LexPlaces.calls k x0 true w hT h).mono ?_
  rintro e w' ⟨rfl, hd⟩
  exact ⟨rfl, hd⟩
end Go.Proofs.YtmohglifmoecnaaDoor.PPla
