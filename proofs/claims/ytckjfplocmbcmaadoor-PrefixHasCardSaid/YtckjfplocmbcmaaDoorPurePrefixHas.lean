import Derived.Test.YtckjfplocmbcmaaDoorPdPrefixHas
import Derived.Test.YtckjfplocmbcmaaDoorPureCmp
namespace Go.Proofs.YtckjfplocmbcmaaDoor.Pure
open Go.RowKit Go.Proofs.YtckjfplocmbcmaaDoor.PAll Go.Proofs.YtckjfplocmbcmaaDoorW.PrintWords Go.Proofs.YtckjfplocmbcmaaDoorW.PrintLast Go.Proofs.YtckjfplocmbcmaaDoorW.PrintMore
set_option linter.unusedVariables false
theorem and_31 (z : Int) (h0 : -9223372036854775808 ≤ z) (h1 : z ≤ 9223372036854775807) : Go.bits .and .i64 z 31 = z % 32 := by
  have e : (BitVec.ofInt 64 z &&& BitVec.ofInt 64 31).toNat = (z % 18446744073709551616).toNat % 2 ^ 5 := by
    rw [BitVec.toNat_and, BitVec.toNat_ofInt, BitVec.toNat_ofInt, show ((31 : Int) % ((2 ^ 64 : Nat) : Int)).toNat = 2 ^ 5 - 1 by decide, Nat.and_two_pow_sub_one_eq_mod]
    rfl
  show IntKind.i64.wrap ((BitVec.ofInt 64 z &&& BitVec.ofInt 64 31).toNat : Int) = _
  rw [e, IntKind.wrap_i64] <;> omega
theorem hasP_self (a n : Int) : hasP a n a n = saneP a n := by
  unfold hasP
  cases h : saneP a n
  · simp
  · obtain ⟨-, -, h3⟩ := (saneP_iff a n).1 h
    simp [← h3]
theorem shN_anti {n m : Int} (h : n ≤ m) : shN m ≤ shN n := by unfold shN mx mn; repeat' split <;> omega
theorem low_nat {x : Nat} (h : x < 4294967296) : lowN (x : Int) = x := by unfold lowN; omega
theorem hasP_trans {a b c d e f : Int} (h1 : hasP a b c d = true) (h2 : hasP c d e f = true) : hasP a b e f = true := by
  obtain ⟨s1, s2, l1, m1⟩ := (hasP_iff _ _ _ _).1 h1
  obtain ⟨-, s3, l2, m2⟩ := (hasP_iff _ _ _ _).1 h2
  refine (hasP_iff _ _ _ _).2 ⟨s1, s3, by omega, ?_⟩
  rw [← m1, ← m2, low_cut, cutN_cut, Nat.max_eq_right (shN_anti l1)]
theorem sane_cut (x n : Int) (h0 : 0 ≤ n) (h1 : n ≤ 32) : saneP ((cutN (lowN x) (shN n) : Nat) : Int) n = true := by
  refine (saneP_iff _ _).2 ⟨h0, h1, ?_⟩
  rw [low_cut, cutN_cut, Nat.max_self]
theorem cut_i64 (x : Int) (s : Nat) : i64 ((cutN (lowN x) s : Nat) : Int) := by
  have := cutN_le (lowN x) s
  have := lowN_lt x
  constructor <;> omega
theorem has_tail (x n m : Int) (hx : i64 x) (hn : i64 n) (hm : i64 m) : ridgewaylaw02_PrefixHas.j0 40 x n m true false = some true := by
  have en := and_31 n hn.1 hn.2
  have em := and_31 m hm.1 hm.2
  have el := and_low x hx.1 hx.2
  simp only [ridgewaylaw02_PrefixHas.j0]
  rw [en, em, el]
  obtain ⟨p, hp⟩ : ∃ p, p = n % 32 := ⟨_, rfl⟩
  obtain ⟨q, hq⟩ : ∃ q, q = m % 32 := ⟨_, rfl⟩
  rw [← hp, ← hq]
  have p0 : 0 ≤ p := by omega
  have p1 : p ≤ 32 := by omega
  have q0 : 0 ≤ q := by omega
  have q1 : q ≤ 32 := by omega
  have sp := sane_cut x p p0 p1
  have sq := sane_cut x q q0 q1
  have hxl : x % 4294967296 = ((cutN (lowN x) (shN 32) : Nat) : Int) := by
    rw [shN_32]
    unfold cutN lowN
    omega
  have s32 := sane_cut x 32 (by decide) (by decide)
  rw [hxl, if_neg (by decide), mask_eq x p hx.1 hx.2, Option.bind_some, mask_eq x q hx.1 hx.2, Option.bind_some, if_pos trivial]
  rw [sane_eq _ _ (cut_i64 x _), Option.bind_some, sp, if_pos rfl, sane_eq _ _ (cut_i64 x _), Option.bind_some, sq, if_pos rfl]
  rw [has_eq _ _ _ _ (cut_i64 x _) (cut_i64 x _), Option.bind_some]
  have e1 : hasP ((cutN (lowN x) (shN p) : Nat) : Int) p ((cutN (lowN x) (shN q) : Nat) : Int) q = decide (p ≤ q) := by
    by_cases h : p ≤ q
    · rw [decide_eq_true h]
      refine (hasP_iff _ _ _ _).2 ⟨sp, sq, h, ?_⟩
      rw [low_cut, cutN_cut, Nat.max_eq_right (shN_anti h)]
    · rw [decide_eq_false h]
      unfold hasP
      rw [decide_eq_false h]
      simp
  have e2 : hasP ((cutN (lowN x) (shN p) : Nat) : Int) p ((cutN (lowN x) (shN 32) : Nat) : Int) 32 = true := by
    refine (hasP_iff _ _ _ _).2 ⟨sp, s32, p1, ?_⟩
    rw [low_cut, cutN_cut, Nat.max_eq_right (shN_anti p1)]
  rw [e1, beq_self_eq_true, if_pos rfl, has_eq _ _ _ _ (cut_i64 x _) (cut_i64 x _), Option.bind_some, e2]
theorem has_f (a b c d e f x n m : Int) (ha : i64 a) (hc : i64 c) (he : i64 e) (hx : i64 x) (hn : i64 n) (hm : i64 m) : ridgewaylaw02_PrefixHas.f 40 a b c d e f x n m = some true := by
  have hj := has_tail x n m hx hn hm
  unfold ridgewaylaw02_PrefixHas.f
  rw [awake_yes]
  simp only [has_eq _ _ _ _ ha ha, has_eq _ _ _ _ ha hc, has_eq _ _ _ _ hc ha, has_eq _ _ _ _ hc he, has_eq _ _ _ _ ha he, sane_eq a b ha, Option.bind_some, hasP_self, bne_self_eq_false, Bool.false_eq_true, if_false, hj]
  cases h1 : hasP a b c d
  · simp only [Bool.false_eq_true, if_false]
  · simp only [if_true]
    cases h3 : hasP c d e f
    · simp only [Bool.false_eq_true, if_false]
      cases h2 : hasP c d a b
      · simp only [Bool.false_eq_true, if_false]
      · have l1 := has_le h1
        have l2 := has_le h2
        obtain rfl : a = c := by omega
        obtain rfl : b = d := by omega
        simp
    · simp only [if_true, hasP_trans h1 h3, Bool.not_true]
      cases h2 : hasP c d a b
      · simp only [Bool.false_eq_true, if_false, hj]
      · have l1 := has_le h1
        have l2 := has_le h2
        obtain rfl : a = c := by omega
        obtain rfl : b = d := by omega
        simp [hj]
theorem PrefixHas : ridgewaylaw02_PrefixHas.Pure := by
  intro p q r x n m hp hq hr hx hn hm
  exact ⟨40, has_f _ _ _ _ _ _ _ _ _ (g3_iff hp.1) (g3_iff hq.1) (g3_iff hr.1) (g3_iff hx) (g3_iff hn) (g3_iff hm)⟩
end Go.Proofs.YtckjfplocmbcmaaDoor.Pure
