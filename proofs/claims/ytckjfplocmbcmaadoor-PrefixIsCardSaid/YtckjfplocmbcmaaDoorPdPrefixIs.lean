/- The pure statement of ridgewaylaw02_PrefixIs, and the walk that follows from it; written by a program of this session's (wip/tools). -/
import Derived.Test.YtckjfplocmbcmaaDoorPAllx14
import Derived.Test.YtckjfplocmbcmaaDoorPAllxg
namespace Go.Proofs.YtckjfplocmbcmaaDoor.PAll
open Go.RowKit Go.Proofs.YtckjfplocmbcmaaDoorW.PrintWords Go.Proofs.YtckjfplocmbcmaaDoorW.PrintLast Go.Proofs.YtckjfplocmbcmaaDoorW.PrintMore
set_option linter.unusedVariables false
def ridgewaylaw02_PrefixIs.Pure : Prop := ∀ (x0 : S23) (x1 : S23) (x2 : Int) (x3 : List Int) (x4 : ByteArray), g23 x0 → g23 x1 → g3 x2 → g24 x3 → g9 x4 → ∃ k, ridgewaylaw02_PrefixIs.f k x0.f0 x0.f1 x1.f0 x1.f1 x2 x3 x4 = some true
theorem ridgewaylaw02_PrefixIs.walk (P : ridgewaylaw02_PrefixIs.Pure) (x0 : S23) (cs0 : List Value) (x1 : S23) (cs1 : List Value) (x2 : Int) (x3 : List Int) (A3 : Option Addr) (c3 : Nat) (x4 : ByteArray) (w : World) (hK0 : k23.K w x0 cs0) (hG0 : g23 x0) (hK1 : k23.K w x1 cs1) (hG1 : g23 x1) (hG2 : g3 x2) (hl3 : x3.length ≤ c3) (hC3 : Kd.C (Kd.int .u8) w A3 x3.length x3) (hG3 : g24 x3) (hG4 : g9 x4) (hT : Tabs w) :
    Calls Tryd.prog 3 #[.agg cs0.toArray, .agg cs1.toArray, .int .i64 x2, .slice A3 x3.length c3, .string x4] w fun e w' => e = .returned (.bool true) ∧ Below w.heap.size w w' := by
  have hcs0 := k23_open hK0
  subst hcs0
  have hcs1 := k23_open hK1
  subst hcs1
  obtain ⟨k, h⟩ := P x0 x1 x2 x3 x4 hG0 hG1 hG2 hG3 hG4
  refine (ridgewaylaw02_PrefixIs.calls k x0.f0 x0.f1 x1.f0 x1.f1 x2 A3 c3 x3 x4 true w hC3 hl3 hT h).mono ?_
  rintro e w' ⟨rfl, hd⟩
  exact ⟨rfl, hd⟩
end Go.Proofs.YtckjfplocmbcmaaDoor.PAll
