import Derived.Test.YtckjfplocmbcmaaDoorPdPrefixMask
import Derived.Test.YtckjfplocmbcmaaDoorPureMask
namespace Go.Proofs.YtckjfplocmbcmaaDoor.Pure
open Go.RowKit Go.Proofs.YtckjfplocmbcmaaDoor.PAll Go.Proofs.YtckjfplocmbcmaaDoorW.PrintWords Go.Proofs.YtckjfplocmbcmaaDoorW.PrintLast Go.Proofs.YtckjfplocmbcmaaDoorW.PrintMore

theorem PrefixMask : ridgewaylaw02_PrefixMask.Pure := by
  intro a n m ha hn hm
  obtain ⟨a0, a1⟩ := g3_iff ha
  obtain ⟨n0, n1⟩ := g3_iff hn
  obtain ⟨m0, m1⟩ := g3_iff hm
  refine ⟨40, ?_⟩
  have hl := lowN_lt a
  have hx : ∀ s, -9223372036854775808 ≤ ((cutN (lowN a) s : Nat) : Int) ∧ ((cutN (lowN a) s : Nat) : Int) ≤ 9223372036854775807 := fun s => by
    have := cutN_le (lowN a) s
    omega
  have m2 : ∀ s t, prefix_Mask.f ((cutN (lowN a) s : Nat) : Int) t = some ((cutN (lowN a) (max s (shN t)) : Nat) : Int) := fun s t => by
    rw [mask_eq _ t (hx s).1 (hx s).2, low_cut, cutN_cut]
  have hsane : prefix_Sane.f ((cutN (lowN a) (shN n) : Nat) : Int) (mx 0 (mn n 32)) = some true := by
    unfold prefix_Sane.f
    have h1 : mx 0 (mn n 32) ≥ 0 := by unfold mx mn; repeat' split <;> omega
    have h2 : mx 0 (mn n 32) ≤ 32 := by unfold mx mn; repeat' split <;> omega
    rw [if_pos h1, if_pos h2, m2, shN_k, Nat.max_self]
    simp
  have h32 : prefix_Mask.f a 32 = some (Go.bits .and .i64 a 4294967295) := by
    rw [mask_eq a 32 a0 a1, shN_32, and_low a a0 a1]
    congr 1
    unfold cutN lowN
    omega
  unfold ridgewaylaw02_PrefixMask.f
  rw [awake_yes, Option.bind_some, mask_eq a n a0 a1, Option.bind_some, m2, Option.bind_some, if_pos rfl, mask_eq a (mn n m) a0 a1, Option.bind_some, shN_mn, if_pos rfl, hsane, Option.bind_some, if_pos rfl]
  by_cases h : n > m
  · rw [if_pos h, h32, Option.bind_some]
    simp
  · rw [if_neg h, mask_eq a m a0 a1, Option.bind_some, if_pos ?_, h32, Option.bind_some]
    · simp
    · have : shN m ≤ shN n := by unfold shN mx mn; repeat' split <;> omega
      have := cutN_mono (lowN a) (shN n) (shN m) this
      omega

end Go.Proofs.YtckjfplocmbcmaaDoor.Pure
