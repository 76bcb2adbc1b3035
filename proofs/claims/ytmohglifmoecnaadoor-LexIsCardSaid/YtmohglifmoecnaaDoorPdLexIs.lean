/- The pure statement of ridgewaylaw11_LexIs, and the walk that follows from it; written by a program of this session's (wip/tools). -/
import Derived.Test.YtmohglifmoecnaaDoorPAllx6
import Derived.Test.YtmohglifmoecnaaDoorPAllxg
namespace Go.Proofs.YtmohglifmoecnaaDoor.PAll
open Go.RowKit Go.Proofs.YtmohglifmoecnaaDoorW.PrintWords Go.Proofs.YtmohglifmoecnaaDoorW.PrintLast Go.Proofs.YtmohglifmoecnaaDoorW.PrintMore
set_option linter.unusedVariables false
def ridgewaylaw11_LexIs.Pure : Prop := ∀ (x0 : ByteArray) (x1 : List (S32)), g9 x0 → g22 x1 → ∃ k, ridgewaylaw11_LexIs.f k x0 x1 = some true
theorem ridgewaylaw11_LexIs.walk (P : ridgewaylaw11_LexIs.Pure) (x0 : ByteArray) (x1 : List (S32)) (A1 : Option Addr) (c1 : Nat) (w : World) (hG0 : g9 x0) (hl1 : x1.length ≤ c1) (hC1 : Kd.C k32 w A1 x1.length x1) (hG1 : g22 x1) (hT : Tabs w) :
    Calls Tryd.prog 3 #[.string x0, .slice A1 x1.length c1] w fun e w' => e = .returned (.bool true) ∧ Below w.heap.size w w' := by
  obtain ⟨k, h⟩ := P x0 x1 hG0 hG1
  refine (ridgewaylaw11_LexIs.calls k x0 A1 c1 x1 true w hC1 hl1 hT h).mono ?_
  rintro e w' ⟨rfl, hd⟩
  exact ⟨rfl, hd⟩
end Go.Proofs.YtmohglifmoecnaaDoor.PAll
