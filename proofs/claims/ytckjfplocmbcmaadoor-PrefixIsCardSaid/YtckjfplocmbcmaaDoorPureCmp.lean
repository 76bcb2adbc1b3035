/- How prefixes compare and have one another, as plain functions. -/
import Derived.Test.YtckjfplocmbcmaaDoorPureMask
import Derived.Test.YtckjfplocmbcmaaDoorPAllx4
import Derived.Test.YtckjfplocmbcmaaDoorPAllx5
namespace Go.Proofs.YtckjfplocmbcmaaDoor.Pure
open Go.RowKit Go.Proofs.YtckjfplocmbcmaaDoor.PAll Go.Proofs.YtckjfplocmbcmaaDoorW.PrintWords Go.Proofs.YtckjfplocmbcmaaDoorW.PrintLast Go.Proofs.YtckjfplocmbcmaaDoorW.PrintMore
set_option linter.unusedVariables false
def cmpI (a b : Int) : Int := if a < b then -1 else if a > b then 1 else 0
def cmpP (a b c d : Int) : Int := if cmpI a c = 0 then cmpI b d else cmpI a c
theorem cmpI_eq (a b : Int) : cmp_Compare_int.f a b = some (cmpI a b) := by
  unfold cmp_Compare_int.f cmp_isNaN_int.f cmpI
  have h1 : (a != a) = false := by simp
  have h2 : (b != b) = false := by simp
  rw [h1, h2]
  simp only [Option.bind_some, Bool.false_eq_true, if_false]
  split
  · rfl
  · split <;> rfl
theorem or_eq (k : Nat) (x y : Int) : cmp_Or_int.f (k + 3) [x, y] = some (if x = 0 then y else x) := by
  have w1 : wrap64 (0 + 1) = 1 := by decide +kernel
  have w2 : wrap64 (1 + 1) = 2 := by decide +kernel
  have r0 : rd [x, y] 0 = x := rfl
  have r1 : rd [x, y] 1 = y := rfl
  unfold cmp_Or_int.f
  simp only [cmp_Or_int.l0, List.length_cons, List.length_nil, r0]
  rw [if_pos (by decide), if_pos (by decide), if_pos (by decide)]
  by_cases hx : x = 0
  · rw [if_pos hx, if_pos hx, w1, r1, if_pos (by decide), if_pos (by decide), if_pos (by decide)]
    by_cases hy : y = 0
    · rw [if_pos hy, w2, if_neg (by decide), hy]
    · rw [if_neg hy]
  · rw [if_neg hx, if_neg hx]
theorem compare_eq (k : Nat) (a b c d : Int) : prefix_Compare.f (k + 3) a b c d = some (cmpP a b c d) := by
  unfold prefix_Compare.f
  rw [cmpI_eq, Option.bind_some, cmpI_eq, Option.bind_some, or_eq, Option.bind_some]
  rfl
def i64 (a : Int) : Prop := -9223372036854775808 ≤ a ∧ a ≤ 9223372036854775807
/-- Is it a prefix? -/
def saneP (a n : Int) : Bool := decide (n ≥ 0) && decide (n ≤ 32) && (a == ((cutN (lowN a) (shN n) : Nat) : Int))
def hasP (a n b m : Int) : Bool := saneP a n && saneP b m && decide (n ≤ m) && (((cutN (lowN b) (shN n) : Nat) : Int) == a)
theorem sane_eq (a n : Int) (h : i64 a) : prefix_Sane.f a n = some (saneP a n) := by
  unfold prefix_Sane.f saneP
  by_cases h1 : n ≥ 0
  · rw [if_pos h1]
    by_cases h2 : n ≤ 32
    · rw [if_pos h2, mask_eq a n h.1 h.2, Option.bind_some]
      simp [h1, h2]
    · rw [if_neg h2]
      simp [h2]
  · rw [if_neg h1]
    simp [h1]
theorem has_eq (a n b m : Int) (h : i64 a) (hb : i64 b) : prefix_Has.f a n b m = some (hasP a n b m) := by
  unfold prefix_Has.f hasP
  rw [sane_eq a n h, Option.bind_some]
  cases h1 : saneP a n
  · simp
  · rw [if_pos rfl, sane_eq b m hb, Option.bind_some]
    cases h2 : saneP b m
    · simp
    · rw [if_pos rfl]
      by_cases h3 : n ≤ m
      · rw [if_pos h3, mask_eq b n hb.1 hb.2, Option.bind_some]
        simp [h3]
      · rw [if_neg h3]
        simp [h3]
theorem saneP_iff (a n : Int) : saneP a n = true ↔ 0 ≤ n ∧ n ≤ 32 ∧ a = ((cutN (lowN a) (shN n) : Nat) : Int) := by
  unfold saneP
  simp [and_assoc]
theorem hasP_iff (a n b m : Int) : hasP a n b m = true ↔ saneP a n = true ∧ saneP b m = true ∧ n ≤ m ∧ ((cutN (lowN b) (shN n) : Nat) : Int) = a := by
  unfold hasP
  simp [and_assoc]
/-- A prefix' address is its own low bits. -/
theorem sane_low {a n : Int} (h : saneP a n = true) : ((lowN a : Nat) : Int) = a := by
  obtain ⟨-, -, h3⟩ := (saneP_iff a n).1 h
  have := cutN_le (lowN a) (shN n)
  have := lowN_lt a
  unfold lowN at *
  omega
theorem has_le {a n b m : Int} (h : hasP a n b m = true) : a ≤ b ∧ n ≤ m := by
  obtain ⟨h1, h2, h3, h4⟩ := (hasP_iff a n b m).1 h
  have := sane_low h2
  have := cutN_le (lowN b) (shN n)
  omega
end Go.Proofs.YtckjfplocmbcmaaDoor.Pure
