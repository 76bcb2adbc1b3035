/- Routes are in one order (the law RouteOrder), as a statement over numbers and lists alone: of any three routes the other way round is the other way round, none is better just if they are the same, and what is better than a better one is better; without a condition. -/
import Derived.Test.YtmbacpnmniemnaaPdRouteOrder
import Derived.Test.YtmbacpnmniemnaaPureRoute
namespace Go.Proofs.Ytmbacpnmniemnaa.Pure
open Go.RowKit Go.Proofs.Ytmbacpnmniemnaa.PAll Go.Proofs.YtmbacpnmniemnaaW.PrintWords Go.Proofs.YtmbacpnmniemnaaW.PrintLast

theorem RouteOrder : ridgewaylaw09_RouteOrder.Pure := by
  intro x0 x1 x2 _ _ _
  obtain ⟨K, hK⟩ := few_ev [x0, x1, x2] (by simp)
  have hf : ridgewayref09_Few.f (K + 1) ([(⟨x0.f0, (⟨x0.f1.f0, x0.f1.f1, x0.f1.f2, x0.f1.f3⟩ : S25), x0.f2⟩ : S27), (⟨x1.f0, (⟨x1.f1.f0, x1.f1.f1, x1.f1.f2, x1.f1.f3⟩ : S25), x1.f2⟩ : S27), (⟨x2.f0, (⟨x2.f1.f0, x2.f1.f1, x2.f1.f2, x2.f1.f3⟩ : S25), x2.f2⟩ : S27)] : List S27) = some (few [x0, x1, x2]) := hK (K + 1) (Nat.le_succ _)
  refine ⟨K + 1, ?_⟩
  unfold ridgewaylaw09_RouteOrder.f
  rw [hf, show ridgewaylaw09_awake.f = some true from rfl]
  have c01 : route_Compare.f x0.f0 x0.f1.f0 x0.f1.f1 x0.f1.f2 x0.f1.f3 x0.f2 x1.f0 x1.f1.f0 x1.f1.f1 x1.f1.f2 x1.f1.f3 x1.f2 = some (cmpR x0 x1) := rfl
  have c10 : route_Compare.f x1.f0 x1.f1.f0 x1.f1.f1 x1.f1.f2 x1.f1.f3 x1.f2 x0.f0 x0.f1.f0 x0.f1.f1 x0.f1.f2 x0.f1.f3 x0.f2 = some (cmpR x1 x0) := rfl
  have c12 : route_Compare.f x1.f0 x1.f1.f0 x1.f1.f1 x1.f1.f2 x1.f1.f3 x1.f2 x2.f0 x2.f1.f0 x2.f1.f1 x2.f1.f2 x2.f1.f3 x2.f2 = some (cmpR x1 x2) := rfl
  have c02 : route_Compare.f x0.f0 x0.f1.f0 x0.f1.f1 x0.f1.f2 x0.f1.f3 x0.f2 x2.f0 x2.f1.f0 x2.f1.f1 x2.f1.f2 x2.f1.f3 x2.f2 = some (cmpR x0 x2) := rfl
  have r01 := cm.range x0 x1
  have r12 := cm.range x1 x2
  have a01 := cm.anti x0 x1
  have le := cmpR_le x0 x1 x2
  have lt := cmpR_lt x0 x1 x2
  simp only [Option.bind_some]
  by_cases hfew : few [x0, x1, x2] = true
  · rw [if_pos hfew]
    simp only [route_Same.f, c01, c10, c12, Option.bind_some]
    generalize cmpR x0 x1 = p at *
    generalize cmpR x1 x0 = p' at *
    generalize cmpR x1 x2 = q at *
    rw [if_neg (by omega), if_neg (by omega)]
    have hw : wrap64 (-p) = -p := by unfold wrap64; omega
    rw [hw, if_pos a01, if_neg (by simp)]
    have e : ((p == 0) != (p' == 0)) = false := by
      rcases r01 with rfl | rfl | rfl <;> subst a01 <;> rfl
    rw [e]
    simp only [ridgewaylaw09_RouteOrder.j0]
    rw [if_neg (by simp), if_pos trivial]
    simp only [c02, Option.bind_some]
    generalize cmpR x0 x2 = s at *
    by_cases h1 : p > 0
    · rw [if_pos h1, if_pos (by omega)]
    · rw [if_neg h1]
      by_cases h2 : q > 0
      · rw [if_pos h2]
        split <;> rfl
      · rw [if_neg h2, if_pos (le (by omega) (by omega))]
        by_cases h3 : p ≥ 0
        · rw [if_pos h3]
        · rw [if_neg h3, decide_eq_true (lt (by omega) (by omega))]
  · rw [if_neg hfew]
end Go.Proofs.Ytmbacpnmniemnaa.Pure
