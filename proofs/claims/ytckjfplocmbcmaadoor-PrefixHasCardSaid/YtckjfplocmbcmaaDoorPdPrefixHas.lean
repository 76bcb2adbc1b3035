/- The pure statement of ridgewaylaw02_PrefixHas, and the walk that follows from it; written by a program of this session's (wip/tools). -/
import Derived.Test.YtckjfplocmbcmaaDoorPAllx18
import Derived.Test.YtckjfplocmbcmaaDoorPAllxg
namespace Go.Proofs.YtckjfplocmbcmaaDoor.PAll
open Go.RowKit Go.Proofs.YtckjfplocmbcmaaDoorW.PrintWords Go.Proofs.YtckjfplocmbcmaaDoorW.PrintLast Go.Proofs.YtckjfplocmbcmaaDoorW.PrintMore
set_option linter.unusedVariables false
def ridgewaylaw02_PrefixHas.Pure : Prop := ∀ (x0 : S23) (x1 : S23) (x2 : S23) (x3 : Int) (x4 : Int) (x5 : Int), g23 x0 → g23 x1 → g23 x2 → g3 x3 → g3 x4 → g3 x5 → ∃ k, ridgewaylaw02_PrefixHas.f k x0.f0 x0.f1 x1.f0 x1.f1 x2.f0 x2.f1 x3 x4 x5 = some true
theorem ridgewaylaw02_PrefixHas.walk (P : ridgewaylaw02_PrefixHas.Pure) (x0 : S23) (cs0 : List Value) (x1 : S23) (cs1 : List Value) (x2 : S23) (cs2 : List Value) (x3 : Int) (x4 : Int) (x5 : Int) (w : World) (hK0 : k23.K w x0 cs0) (hG0 : g23 x0) (hK1 : k23.K w x1 cs1) (hG1 : g23 x1) (hK2 : k23.K w x2 cs2) (hG2 : g23 x2) (hG3 : g3 x3) (hG4 : g3 x4) (hG5 : g3 x5) (hT : Tabs w) :
    Calls Tryd.prog 7 #[.agg cs0.toArray, .agg cs1.toArray, .agg cs2.toArray, .int .i64 x3, .int .i64 x4, .int .i64 x5] w fun e w' => e = .returned (.bool true) ∧ Below w.heap.size w w' := by
  have hcs0 := k23_open hK0
  subst hcs0
  have hcs1 := k23_open hK1
  subst hcs1
  have hcs2 := k23_open hK2
  subst hcs2
  obtain ⟨k, h⟩ := P x0 x1 x2 x3 x4 x5 hG0 hG1 hG2 hG3 hG4 hG5
  refine (ridgewaylaw02_PrefixHas.calls k x0.f0 x0.f1 x1.f0 x1.f1 x2.f0 x2.f1 x3 x4 x5 true w hT h).mono ?_
  rintro e w' ⟨rfl, hd⟩
  exact ⟨rfl, hd⟩
end Go.Proofs.YtckjfplocmbcmaaDoor.PAll
