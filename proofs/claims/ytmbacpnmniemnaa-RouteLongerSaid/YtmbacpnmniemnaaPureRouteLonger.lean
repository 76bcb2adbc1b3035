/- A longer way is a worse one (the law RouteLonger), as a statement over numbers and lists alone: a route with one AS more, wherever in its path, and no greater preference, is worse; for all routes of which the law speaks, without a further condition. -/
import Derived.Test.YtmbacpnmniemnaaPdRouteLonger
import Derived.Test.YtmbacpnmniemnaaPureRoute
import Derived.Laws.BitsLemmas
import Derived.OpenShut
namespace Go.Proofs.Ytmbacpnmniemnaa.Pure
open Go.RowKit Go.Proofs.Ytmbacpnmniemnaa.PAll Go.Proofs.YtmbacpnmniemnaaW.PrintWords Go.Proofs.YtmbacpnmniemnaaW.PrintLast
set_option linter.unusedVariables false

theorem and_mask16 (n : Int) : bits .and .i64 n 65535 = n % 65536 := by
  have h1 : (BitVec.ofInt 64 65535).toNat = 2 ^ 16 - 1 := by decide
  have key : (BitVec.ofInt 64 n &&& BitVec.ofInt 64 65535).toNat = (n % ((2 ^ 64 : Nat) : Int)).toNat % 2 ^ 16 := by
    rw [BitVec.toNat_and, BitVec.toNat_ofInt, h1, Nat.and_two_pow_sub_one_eq_mod]
  show IntKind.i64.wrap ((BitVec.ofInt 64 n &&& BitVec.ofInt 64 65535).toNat : Nat) = n % 65536
  rw [key, IntKind.wrap_i64]
  omega
theorem worse (a : S27) (p : Int) (y : List Int) (hp : p ≤ a.f0) (hy : y.length = a.f1.f1.length + 1) : cmpR a ⟨p, ⟨a.f1.f0, y, a.f1.f2, a.f1.f3⟩, a.f2⟩ = -1 := by
  show firstNZ [cmpI p a.f0, cmpI (a.f1.f1.length : Int) (y.length : Int), _, _, _, _, _] = -1
  rcases cmpI_cases p a.f0 with ⟨h, e⟩ | ⟨h, e⟩ | ⟨h, e⟩
  · rw [e]; rfl
  · rcases cmpI_cases (a.f1.f1.length : Int) (y.length : Int) with ⟨h', e'⟩ | ⟨h', e'⟩ | ⟨h', e'⟩
    · rw [e, e']; rfl
    · omega
    · omega
  · omega
theorem RouteLonger : ridgewaylaw09_RouteLonger.Pure := by
  intro x0 as' k' less hx _ _ _
  refine ⟨1, ?_⟩
  unfold ridgewaylaw09_RouteLonger.f
  rw [show ridgewaylaw09_awake.f = some true from rfl]
  simp only [Option.bind_some]
  have no : ridgewaylaw09_RouteLonger.j0 1 as' k' less true true x0.f0 x0.f1.f0 x0.f1.f1 x0.f1.f2 x0.f1.f3 x0.f2 = some true := by
    simp only [ridgewaylaw09_RouteLonger.j0]
    rw [if_pos trivial]
  by_cases h1 : (x0.f1.f1.length : Int) > 100
  · rw [if_pos h1]; exact no
  · rw [if_neg h1]
    by_cases h2 : x0.f0 < -1000000
    · rw [if_pos h2]; exact no
    · rw [if_neg h2]
      by_cases h3 : less < 0
      · rw [if_pos h3]; exact no
      · rw [if_neg h3]
        by_cases h4 : less > 1000000
        · rw [decide_eq_true h4]; exact no
        · rw [decide_eq_false h4]
          have hb : x0.f0 ≤ 9223372036854775807 := by
            have := hx.1
            unfold g3 at this
            exact (bounds_i64 this).2
          have hw : wrap64 (x0.f0 - less) = x0.f0 - less := by unfold wrap64; omega
          have hl : wrap64 ((x0.f1.f1.length : Int) + 1) = ((x0.f1.f1.length + 1 : Nat) : Int) := by unfold wrap64; omega
          clear hb
          simp only [ridgewaylaw09_RouteLonger.j0]
          rw [if_neg (by simp), hl, if_neg (by omega), and_mask16, hw]
          have hm : ∃ m : Nat, Int.tmod (k' % 65536) ((x0.f1.f1.length + 1 : Nat) : Int) = (m : Int) ∧ m ≤ x0.f1.f1.length := by
            have h0 : 0 ≤ k' % 65536 := by omega
            rw [Int.tmod_eq_emod_of_nonneg h0]
            have ha := Int.emod_nonneg (k' % 65536) (show ((x0.f1.f1.length + 1 : Nat) : Int) ≠ 0 by omega)
            have hb := Int.emod_lt_of_pos (k' % 65536) (show (0 : Int) < ((x0.f1.f1.length + 1 : Nat) : Int) by omega)
            exact ⟨(k' % 65536 % ((x0.f1.f1.length + 1 : Nat) : Int)).toNat, by omega, by omega⟩
          obtain ⟨m, em, hm⟩ := hm
          rw [em]
          simp only [Option.bind_some, Int.toNat_natCast, List.nil_append, List.length_nil]
          rw [if_pos (by omega), if_pos (by omega), if_pos (by rw [List.length_take]; omega), if_pos (by rw [List.length_take]; omega)]
          rw [if_pos (by simp only [List.length_append, List.length_take, List.length_drop, List.length_cons, List.length_nil]; omega)]
          have hy : (x0.f1.f1.take m ++ [as'] ++ x0.f1.f1.drop m).length = x0.f1.f1.length + 1 := by
            simp only [List.length_append, List.length_take, List.length_drop, List.length_cons, List.length_nil]; omega
          generalize (x0.f1.f1.take m ++ [as'] ++ x0.f1.f1.drop m) = y at hy
          have c1 : route_Compare.f x0.f0 x0.f1.f0 x0.f1.f1 x0.f1.f2 x0.f1.f3 x0.f2 (x0.f0 - less) x0.f1.f0 y x0.f1.f2 x0.f1.f3 x0.f2 = some (cmpR x0 ⟨x0.f0 - less, ⟨x0.f1.f0, y, x0.f1.f2, x0.f1.f3⟩, x0.f2⟩) := rfl
          have c2 : route_Compare.f (x0.f0 - less) x0.f1.f0 y x0.f1.f2 x0.f1.f3 x0.f2 x0.f0 x0.f1.f0 x0.f1.f1 x0.f1.f2 x0.f1.f3 x0.f2 = some (cmpR ⟨x0.f0 - less, ⟨x0.f1.f0, y, x0.f1.f2, x0.f1.f3⟩, x0.f2⟩ x0) := rfl
          have e1 := worse x0 (x0.f0 - less) y (by omega) hy
          have e2 := cm.anti x0 ⟨x0.f0 - less, ⟨x0.f1.f0, y, x0.f1.f2, x0.f1.f3⟩, x0.f2⟩
          simp only [route_Same.f, c1, c2, Option.bind_some, e1, e2]
          rfl
end Go.Proofs.Ytmbacpnmniemnaa.Pure
