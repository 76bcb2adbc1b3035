/- The mask of a prefix as arithmetic, and the document's example (awake) evaluated: plain Lean, no walk. -/
import Derived.Test.YtckjfplocmbcmaaDoorPAllx8
import Derived.Test.YtckjfplocmbcmaaDoorPAllxg
import Derived.Laws.MathBits
namespace Go.Proofs.YtckjfplocmbcmaaDoor.Pure
open Go.RowKit Go.Proofs.YtckjfplocmbcmaaDoor.PAll Go.Proofs.YtckjfplocmbcmaaDoorW.PrintWords Go.Proofs.YtckjfplocmbcmaaDoorW.PrintLast Go.Proofs.YtckjfplocmbcmaaDoorW.PrintMore
set_option maxRecDepth 100000
set_option linter.unusedVariables false
theorem awake_yes : ridgewaylaw02_awake.f 40 = some true := by decide +kernel
theorem g3_iff {a : Int} (h : g3 a) : -9223372036854775808 ≤ a ∧ a ≤ 9223372036854775807 := by
  have h' : IntKind.i64.min ≤ a ∧ a ≤ IntKind.i64.max := by simpa [g3, Lit.wf] using h
  exact h'
theorem and_low (z : Int) (h0 : -9223372036854775808 ≤ z) (h1 : z ≤ 9223372036854775807) : Go.bits .and .i64 z 4294967295 = z % 4294967296 := by
  have e : (BitVec.ofInt 64 z &&& BitVec.ofInt 64 4294967295).toNat = (z % 18446744073709551616).toNat % 2 ^ 32 := by
    rw [BitVec.toNat_and, BitVec.toNat_ofInt, BitVec.toNat_ofInt, show ((4294967295 : Int) % ((2 ^ 64 : Nat) : Int)).toNat = 2 ^ 32 - 1 by decide, Nat.and_two_pow_sub_one_eq_mod]
    rfl
  show IntKind.i64.wrap ((BitVec.ofInt 64 z &&& BitVec.ofInt 64 4294967295).toNat : Int) = _
  rw [e, IntKind.wrap_i64] <;> omega
/-- The first 32 - s bits of a number of 32 bits. -/
def cutN (x s : Nat) : Nat := x / 2 ^ s * 2 ^ s
theorem cutN_le (x s : Nat) : cutN x s ≤ x := Nat.div_mul_le_self _ _
theorem cutN_cut (x s t : Nat) : cutN (cutN x s) t = cutN x (max s t) := by
  unfold cutN
  rcases Nat.le_total t s with h | h
  · rw [Nat.max_eq_left h]
    obtain ⟨d, rfl⟩ := Nat.exists_eq_add_of_le h
    have e : x / 2 ^ (t + d) * 2 ^ (t + d) = (x / 2 ^ (t + d) * 2 ^ d) * 2 ^ t := by rw [Nat.pow_add, Nat.mul_comm (2 ^ t), Nat.mul_assoc]
    rw [e, Nat.mul_div_cancel _ (Nat.two_pow_pos t)]
  · rw [Nat.max_eq_right h]
    obtain ⟨d, rfl⟩ := Nat.exists_eq_add_of_le h
    rw [Nat.pow_add, ← Nat.div_div_eq_div_mul, Nat.mul_div_cancel _ (Nat.two_pow_pos s), Nat.div_div_eq_div_mul]
theorem cutN_mono (x s t : Nat) (h : t ≤ s) : cutN x s ≤ cutN x t := by
  rw [show cutN x s = cutN (cutN x t) s by rw [cutN_cut, Nat.max_eq_right h]]
  exact cutN_le _ _
/-- How many bits fall away. -/
def shN (n : Int) : Nat := (32 - (mx 0 (mn n 32))).toNat
theorem shN_le (n : Int) : shN n ≤ 32 := by unfold shN mx mn; repeat' split <;> omega
theorem shN_32 : shN 32 = 0 := by decide
theorem shN_mn (n m : Int) : shN (mn n m) = max (shN n) (shN m) := by unfold shN mx mn; repeat' split <;> omega
theorem shN_k (n : Int) : shN (mx 0 (mn n 32)) = shN n := by unfold shN mx mn; repeat' split <;> omega
def lowN (a : Int) : Nat := (a % 4294967296).toNat
theorem lowN_lt (a : Int) : lowN a < 4294967296 := by unfold lowN; omega
theorem mask_eq (a n : Int) (h0 : -9223372036854775808 ≤ a) (h1 : a ≤ 9223372036854775807) : prefix_Mask.f a n = some ((cutN (lowN a) (shN n) : Nat) : Int) := by
  unfold prefix_Mask.f
  rw [and_low a h0 h1]
  have hA : a % 4294967296 = ((lowN a : Nat) : Int) := by unfold lowN; omega
  rw [hA]
  have hc := cutN_le (lowN a) (shN n)
  have hl := lowN_lt a
  have e : ((lowN a : Nat) : Int) / 2 ^ (32 - mx 0 (mn n 32)).toNat * 2 ^ (32 - mx 0 (mn n 32)).toNat = ((cutN (lowN a) (shN n) : Nat) : Int) := by
    unfold cutN shN
    push_cast
    rfl
  rw [e]
  rw [show wrap64 ((cutN (lowN a) (shN n) : Nat) : Int) = ((cutN (lowN a) (shN n) : Nat) : Int) by unfold wrap64; omega]
theorem low_cut (a : Int) (s : Nat) : lowN ((cutN (lowN a) s : Nat) : Int) = cutN (lowN a) s := by
  have := cutN_le (lowN a) s
  have := lowN_lt a
  unfold lowN at *
  omega
end Go.Proofs.YtckjfplocmbcmaaDoor.Pure
