/- The pure statement of ridgewaylaw02_PrefixBack, and the walk that follows from it; written by a program of this session's (wip/tools). -/
import Derived.Test.YtckjfplocmbcmaaDoorPAllx15
import Derived.Test.YtckjfplocmbcmaaDoorPAllxg
namespace Go.Proofs.YtckjfplocmbcmaaDoor.PAll
open Go.RowKit Go.Proofs.YtckjfplocmbcmaaDoorW.PrintWords Go.Proofs.YtckjfplocmbcmaaDoorW.PrintLast Go.Proofs.YtckjfplocmbcmaaDoorW.PrintMore
set_option linter.unusedVariables false
def ridgewaylaw02_PrefixBack.Pure : Prop := ∀ (x0 : List (S23)) (x1 : List Int), g28 x0 → g24 x1 → ∃ k, ridgewaylaw02_PrefixBack.f k x0 x1 = some true
theorem ridgewaylaw02_PrefixBack.walk (P : ridgewaylaw02_PrefixBack.Pure) (x0 : List (S23)) (A0 : Option Addr) (c0 : Nat) (x1 : List Int) (A1 : Option Addr) (c1 : Nat) (w : World) (hl0 : x0.length ≤ c0) (hC0 : Kd.C k23 w A0 x0.length x0) (hG0 : g28 x0) (hl1 : x1.length ≤ c1) (hC1 : Kd.C (Kd.int .u8) w A1 x1.length x1) (hG1 : g24 x1) (hT : Tabs w) :
    Calls Tryd.prog 4 #[.slice A0 x0.length c0, .slice A1 x1.length c1] w fun e w' => e = .returned (.bool true) ∧ Below w.heap.size w w' := by
  obtain ⟨k, h⟩ := P x0 x1 hG0 hG1
  refine (ridgewaylaw02_PrefixBack.calls k A0 c0 x0 A1 c1 x1 true w hC0 hl0 hC1 hl1 hT h).mono ?_
  rintro e w' ⟨rfl, hd⟩
  exact ⟨rfl, hd⟩
end Go.Proofs.YtckjfplocmbcmaaDoor.PAll
