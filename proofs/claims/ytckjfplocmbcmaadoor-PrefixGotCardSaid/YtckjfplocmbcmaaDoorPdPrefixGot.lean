/- The pure statement of ridgewaylaw02_PrefixGot, and the walk that follows from it; written by a program of this session's (wip/tools). -/
import Derived.Test.YtckjfplocmbcmaaDoorPAllx16
import Derived.Test.YtckjfplocmbcmaaDoorPAllxg
namespace Go.Proofs.YtckjfplocmbcmaaDoor.PAll
open Go.RowKit Go.Proofs.YtckjfplocmbcmaaDoorW.PrintWords Go.Proofs.YtckjfplocmbcmaaDoorW.PrintLast Go.Proofs.YtckjfplocmbcmaaDoorW.PrintMore
set_option linter.unusedVariables false
def ridgewaylaw02_PrefixGot.Pure : Prop := ∀ (x0 : List Int), g24 x0 → ∃ k, ridgewaylaw02_PrefixGot.f k x0 = some true
theorem ridgewaylaw02_PrefixGot.walk (P : ridgewaylaw02_PrefixGot.Pure) (x0 : List Int) (A0 : Option Addr) (c0 : Nat) (w : World) (hl0 : x0.length ≤ c0) (hC0 : Kd.C (Kd.int .u8) w A0 x0.length x0) (hG0 : g24 x0) (hT : Tabs w) :
    Calls Tryd.prog 5 #[.slice A0 x0.length c0] w fun e w' => e = .returned (.bool true) ∧ Below w.heap.size w w' := by
  obtain ⟨k, h⟩ := P x0 hG0
  refine (ridgewaylaw02_PrefixGot.calls k (fun k_ => k_ < w.heap.size) A0 c0 x0 true w (Op.shared_of (Kd.heap_int .u8) hl0 hC0) hT h).mono ?_
  rintro e w' ⟨rfl, hd⟩
  exact ⟨rfl, hd⟩
end Go.Proofs.YtckjfplocmbcmaaDoor.PAll
