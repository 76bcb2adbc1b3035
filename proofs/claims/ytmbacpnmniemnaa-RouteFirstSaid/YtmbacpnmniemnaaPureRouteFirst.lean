/- What routes are compared by (the law RouteFirst), as a statement over numbers and lists alone: a greater preference is better, then fewer ASes, then a lesser origin; for all routes, without a condition. -/
import Derived.Test.YtmbacpnmniemnaaPdRouteFirst
import Derived.Test.YtmbacpnmniemnaaPureRoute
namespace Go.Proofs.Ytmbacpnmniemnaa.Pure
open Go.RowKit Go.Proofs.Ytmbacpnmniemnaa.PAll Go.Proofs.YtmbacpnmniemnaaW.PrintWords Go.Proofs.YtmbacpnmniemnaaW.PrintLast

theorem eq_neg_one {c : Int} {p : Prop} [Decidable p] (h : c = -1 ↔ p) : ((c == (-1)) == decide p) = true := by
  by_cases hp : p
  · rw [decide_eq_true hp, h.mpr hp]; rfl
  · rw [decide_eq_false hp, show (c == (-1)) = false from beq_eq_false_iff_ne.mpr (fun e => hp (h.mp e))]; rfl
theorem RouteFirst : ridgewaylaw09_RouteFirst.Pure := by
  intro x0 x1 _ _
  obtain ⟨K, hK⟩ := few_ev [x0, x1] (by simp)
  have hf : ridgewayref09_Few.f K ([(⟨x0.f0, (⟨x0.f1.f0, x0.f1.f1, x0.f1.f2, x0.f1.f3⟩ : S25), x0.f2⟩ : S27), (⟨x1.f0, (⟨x1.f1.f0, x1.f1.f1, x1.f1.f2, x1.f1.f3⟩ : S25), x1.f2⟩ : S27)] : List S27) = some (few [x0, x1]) := hK K (Nat.le_refl _)
  refine ⟨K, ?_⟩
  unfold ridgewaylaw09_RouteFirst.f
  rw [hf, show ridgewaylaw09_awake.f = some true from rfl]
  simp only [Option.bind_some]
  by_cases hfew : few [x0, x1] = true
  · rw [if_pos hfew]
    have hc : route_Compare.f x0.f0 x0.f1.f0 x0.f1.f1 x0.f1.f2 x0.f1.f3 x0.f2 x1.f0 x1.f1.f0 x1.f1.f1 x1.f1.f2 x1.f1.f3 x1.f2 = some (cmpR x0 x1) := rfl
    rw [hc]
    simp only [Option.bind_some, if_true]
    have e : cmpR x0 x1 = lex parts x0 x1 := rfl
    simp only [parts, lex] at e
    by_cases h1 : x0.f0 = x1.f0
    · rw [if_pos h1]
      rw [if_pos (show cmpI x1.f0 x0.f0 = 0 by rw [h1]; exact cmpI_self _)] at e
      by_cases h2 : (x0.f1.f1.length : Int) = (x1.f1.f1.length : Int)
      · rw [if_pos h2]
        rw [if_pos (show cmpI (x0.f1.f1.length : Int) (x1.f1.f1.length : Int) = 0 by rw [h2]; exact cmpI_self _)] at e
        by_cases h3 : x0.f1.f0 = x1.f1.f0
        · rw [if_pos h3]
        · rw [if_neg h3]
          rw [if_neg (fun h => h3 (cmpI_eq h))] at e
          rw [e]
          refine congrArg some (eq_neg_one ?_)
          rcases cmpI_cases x0.f1.f0 x1.f1.f0 with ⟨h, e⟩ | ⟨h, e⟩ | ⟨h, e⟩ <;> rw [e] <;> constructor <;> intro _ <;> omega
      · rw [if_neg h2]
        rw [if_neg (fun h => h2 (cmpI_eq h))] at e
        rw [e]
        refine congrArg some (eq_neg_one ?_)
        rcases cmpI_cases (x0.f1.f1.length : Int) (x1.f1.f1.length : Int) with ⟨h, e⟩ | ⟨h, e⟩ | ⟨h, e⟩ <;> rw [e] <;> constructor <;> intro _ <;> omega
    · rw [if_neg h1]
      rw [if_neg (fun h => h1 (cmpI_eq h).symm)] at e
      rw [e]
      refine congrArg some (eq_neg_one ?_)
      rcases cmpI_cases x1.f0 x0.f0 with ⟨h, e⟩ | ⟨h, e⟩ | ⟨h, e⟩ <;> rw [e] <;> constructor <;> intro _ <;> omega
  · rw [if_neg hfew]
end Go.Proofs.Ytmbacpnmniemnaa.Pure
