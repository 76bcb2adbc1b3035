/- The pure statement of ridgewaylaw05_NoteIs, and the walk that follows from it; written by a program of this session's (wip/tools). -/
import Derived.Test.YtjelhhmnpodlkaaDoorPAllx5
import Derived.Test.YtjelhhmnpodlkaaDoorPAllxg
namespace Go.Proofs.YtjelhhmnpodlkaaDoor.PAll
open Go.RowKit Go.Proofs.YtjelhhmnpodlkaaDoorW.PrintWords Go.Proofs.YtjelhhmnpodlkaaDoorW.PrintLast Go.Proofs.YtjelhhmnpodlkaaDoorW.PrintMore
set_option linter.unusedVariables false
def ridgewaylaw05_NoteIs.Pure : Prop := ∀ (x0 : S24) (x1 : S26) (x2 : Int) (x3 : Int), g24 x0 → g26 x1 → g3 x2 → g3 x3 → ∃ k, ridgewaylaw05_NoteIs.f k x0.f0 x0.f1 x0.f2 x1.f0 x1.f1 x2 x3 = some true
theorem ridgewaylaw05_NoteIs.walk (P : ridgewaylaw05_NoteIs.Pure) (x0 : S24) (cs0 : List Value) (x1 : S26) (cs1 : List Value) (x2 : Int) (x3 : Int) (w : World) (hK0 : k24.K w x0 cs0) (hG0 : g24 x0) (hK1 : k26.K w x1 cs1) (hG1 : g26 x1) (hG2 : g3 x2) (hG3 : g3 x3) (hT : Tabs w) :
    Calls Tryd.prog 3 #[.agg cs0.toArray, .agg cs1.toArray, .int .i64 x2, .int .i64 x3] w fun e w' => e = .returned (.bool true) ∧ Below w.heap.size w w' := by
  obtain ⟨A0_2, c0_2, hcs0, hl0_2, hC0_2⟩ := k24_open hK0
  subst hcs0
  obtain ⟨A1_1, c1_1, hcs1, hl1_1, hC1_1⟩ := k26_open hK1
  subst hcs1
  obtain ⟨k, h⟩ := P x0 x1 x2 x3 hG0 hG1 hG2 hG3
  refine (ridgewaylaw05_NoteIs.calls k x0.f0 x0.f1 A0_2 c0_2 x0.f2 x1.f0 A1_1 c1_1 x1.f1 x2 x3 true w hC0_2 hl0_2 hC1_1 hl1_1 hT h).mono ?_
  rintro e w' ⟨rfl, hd⟩
  exact ⟨rfl, hd⟩
end Go.Proofs.YtjelhhmnpodlkaaDoor.PAll
