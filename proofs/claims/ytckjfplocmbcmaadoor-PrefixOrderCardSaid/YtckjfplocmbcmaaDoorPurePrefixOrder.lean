import Derived.Test.YtckjfplocmbcmaaDoorPdPrefixOrder
import Derived.Test.YtckjfplocmbcmaaDoorPureCmp
namespace Go.Proofs.YtckjfplocmbcmaaDoor.Pure
open Go.RowKit Go.Proofs.YtckjfplocmbcmaaDoor.PAll Go.Proofs.YtckjfplocmbcmaaDoorW.PrintWords Go.Proofs.YtckjfplocmbcmaaDoorW.PrintLast Go.Proofs.YtckjfplocmbcmaaDoorW.PrintMore
set_option linter.unusedVariables false
theorem cmpP_neg (a b c d : Int) : cmpP c d a b = wrap64 (-cmpP a b c d) := by
  have w1 : wrap64 (- -1) = 1 := by decide +kernel
  have w2 : wrap64 (-1) = -1 := by decide +kernel
  have w3 : wrap64 (-0) = 0 := by decide +kernel
  unfold cmpP cmpI
  repeat' split
  all_goals first | omega | (rw [w1]) | (rw [w2]) | (rw [w3])
theorem cmpP_three (a b c d : Int) : cmpP a b c d = -1 ∧ (a < c ∨ a = c ∧ b < d) ∨ cmpP a b c d = 0 ∧ a = c ∧ b = d ∨ cmpP a b c d = 1 ∧ (c < a ∨ a = c ∧ d < b) := by
  unfold cmpP cmpI
  repeat' split
  all_goals omega
theorem order_f (a b c d e f : Int) (ha : i64 a) (hc : i64 c) : ridgewaylaw02_PrefixOrder.f 40 a b c d e f = some true := by
  unfold ridgewaylaw02_PrefixOrder.f
  rw [awake_yes, Option.bind_some, compare_eq 37, Option.bind_some, compare_eq 37, Option.bind_some]
  have h3 := cmpP_three a b c d
  rw [if_neg (by omega), if_neg (by omega), compare_eq 37, Option.bind_some, if_pos (cmpP_neg a b c d)]
  have he : ((cmpP a b c d == 0) != (a == c && (b == d))) = false := by
    rcases h3 with ⟨h, h'⟩ | ⟨h, rfl, rfl⟩ | ⟨h, h'⟩
    · rw [h]
      have : ¬ (a = c ∧ b = d) := by omega
      simpa using this
    · rw [h]
      simp
    · rw [h]
      have : ¬ (a = c ∧ b = d) := by omega
      simpa using this
  rw [he, if_neg (by decide), has_eq a b c d ha hc, Option.bind_some]
  have hj : ridgewaylaw02_PrefixOrder.j0 40 true (cmpP a b c d) (cmpP c d e f) false a b e f = some true := by
    have h4 := cmpP_three c d e f
    have h5 := cmpP_three a b e f
    have hk : prefix_Compare.f 39 a b e f = some (cmpP a b e f) := compare_eq 36 a b e f
    simp only [ridgewaylaw02_PrefixOrder.j0, Bool.false_eq_true, if_false, if_true]
    by_cases h1 : cmpP a b c d > 0
    · rw [if_pos h1, if_pos (by omega)]
    · rw [if_neg h1]
      by_cases h2 : cmpP c d e f > 0
      · rw [if_pos h2]
        split <;> rfl
      · rw [if_neg h2, hk, Option.bind_some, if_pos (by omega)]
        by_cases h6 : cmpP a b c d ≥ 0
        · rw [if_pos h6]
        · rw [if_neg h6, Option.bind_some, show decide (cmpP a b e f < 0) = true by rw [decide_eq_true_iff]; omega]
  cases hh : hasP a b c d
  · rw [if_neg (by decide), hj]
  · rw [if_pos rfl]
    have := has_le hh
    rw [show decide (cmpP a b c d > 0) = false by
      rw [decide_eq_false_iff_not]
      omega, hj]
theorem PrefixOrder : ridgewaylaw02_PrefixOrder.Pure := by
  intro p q r hp hq hr
  exact ⟨40, order_f _ _ _ _ _ _ (g3_iff hp.1) (g3_iff hq.1)⟩
end Go.Proofs.YtckjfplocmbcmaaDoor.Pure
