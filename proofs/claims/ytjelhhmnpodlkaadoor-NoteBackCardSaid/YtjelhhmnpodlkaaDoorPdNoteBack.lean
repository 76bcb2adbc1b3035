/- The pure statement of ridgewaylaw05_NoteBack, and the walk that follows from it; written by a program of this session's (wip/tools). -/
import Derived.Test.YtjelhhmnpodlkaaDoorPAllx8
import Derived.Test.YtjelhhmnpodlkaaDoorPAllxg
namespace Go.Proofs.YtjelhhmnpodlkaaDoor.PAll
open Go.RowKit Go.Proofs.YtjelhhmnpodlkaaDoorW.PrintWords Go.Proofs.YtjelhhmnpodlkaaDoorW.PrintLast Go.Proofs.YtjelhhmnpodlkaaDoorW.PrintMore
set_option linter.unusedVariables false
def ridgewaylaw05_NoteBack.Pure : Prop := ∀ (x0 : S24) (x1 : S26), g24 x0 → g26 x1 → ∃ k, ridgewaylaw05_NoteBack.f k x0.f0 x0.f1 x0.f2 x1.f0 x1.f1 = some true
theorem ridgewaylaw05_NoteBack.walk (P : ridgewaylaw05_NoteBack.Pure) (x0 : S24) (cs0 : List Value) (x1 : S26) (cs1 : List Value) (w : World) (hK0 : k24.K w x0 cs0) (hG0 : g24 x0) (hK1 : k26.K w x1 cs1) (hG1 : g26 x1) (hT : Tabs w) :
    Calls Tryd.prog 6 #[.agg cs0.toArray, .agg cs1.toArray] w fun e w' => e = .returned (.bool true) ∧ Below w.heap.size w w' := by
  obtain ⟨A0_2, c0_2, hcs0, hl0_2, hC0_2⟩ := k24_open hK0
  subst hcs0
  obtain ⟨A1_1, c1_1, hcs1, hl1_1, hC1_1⟩ := k26_open hK1
  subst hcs1
  obtain ⟨k, h⟩ := P x0 x1 hG0 hG1
  refine (ridgewaylaw05_NoteBack.calls k x0.f0 x0.f1 A0_2 c0_2 x0.f2 x1.f0 A1_1 c1_1 x1.f1 true w hC0_2 hl0_2 hC1_1 hl1_1 hT h).mono ?_
  rintro e w' ⟨rfl, hd⟩
  exact ⟨rfl, hd⟩
end Go.Proofs.YtjelhhmnpodlkaaDoor.PAll
