/- What the document's answer says of prefixes: the same plain functions. -/
import Derived.Test.YtckjfplocmbcmaaDoorPureText
import Derived.Test.YtckjfplocmbcmaaDoorPAllx9
import Derived.Test.YtckjfplocmbcmaaDoorPAllx10
import Derived.Test.YtckjfplocmbcmaaDoorPAllx11
import Derived.Test.YtckjfplocmbcmaaDoorPAllx12
import Derived.Test.YtckjfplocmbcmaaDoorPAllx13
namespace Go.Proofs.YtckjfplocmbcmaaDoor.Pure
open Go.RowKit Go.Proofs.YtckjfplocmbcmaaDoor.PAll Go.Proofs.YtckjfplocmbcmaaDoorW.PrintWords Go.Proofs.YtckjfplocmbcmaaDoorW.PrintLast Go.Proofs.YtckjfplocmbcmaaDoorW.PrintMore
set_option linter.unusedVariables false
theorem rsize_from (k : Nat) : ∀ (d i j : Nat), d + i = 32 → ridgewayref02_size.l0 (k + d + 1) ((2 ^ j : Nat) : Int) (i : Int) = some ((2 ^ (j + d) : Nat) : Int) ∨ ¬ j + d ≤ 32
  | 0, i, j, h => by
    obtain rfl : i = 32 := by omega
    left
    rw [ridgewayref02_size.l0, if_neg (by decide)]
    rfl
  | d + 1, i, j, h => by
    by_cases hb : j + (d + 1) ≤ 32
    · left
      have hj : (2 : Nat) ^ j ≤ 2 ^ 31 := Nat.pow_le_pow_right (by decide) (by omega)
      have e31 : (2 : Nat) ^ 31 = 2147483648 := by decide
      have hw : wrap64 (((2 ^ j : Nat) : Int) * 2) = ((2 ^ (j + 1) : Nat) : Int) := by
        rw [Nat.pow_succ]
        unfold wrap64
        omega
      have hi : wrap64 ((i : Int) + 1) = ((i + 1 : Nat) : Int) := by unfold wrap64; omega
      rw [ridgewayref02_size.l0, if_pos (by omega), hw, hi, show k + (d + 1) = k + d + 1 by omega]
      rcases rsize_from k d (i + 1) (j + 1) (by omega) with h1 | h1
      · rw [h1, show j + 1 + d = j + (d + 1) by omega]
      · omega
    · exact .inr hb
theorem rsize_eq (k : Nat) (n : Int) : ridgewayref02_size.f (k + 33) n = some ((2 ^ shN n : Nat) : Int) := by
  unfold ridgewayref02_size.f
  by_cases h : n ≥ 32
  · have e : mx n 0 = n := by unfold mx; split <;> omega
    have es : shN n = 0 := by unfold shN mx mn; repeat' split <;> omega
    rw [e, es, show k + 33 = (k + 32) + 1 by omega, ridgewayref02_size.l0, if_neg (by omega)]
    rfl
  · have e : mx n 0 = ((32 - shN n : Nat) : Int) := by unfold shN mx mn; repeat' split <;> omega
    have hle := shN_le n
    have h1 := rsize_from (k + (32 - shN n)) (shN n) (32 - shN n) 0 (by omega)
    rw [show k + (32 - shN n) + shN n + 1 = k + 33 by omega, Nat.zero_add] at h1
    rw [e]
    rcases h1 with h1 | h1
    · exact h1
    · omega
theorem rmask_eq (k : Nat) (a n : Int) (h : i64 a) : ridgewayref02_Mask.f (k + 33) a n = some ((cutN (lowN a) (shN n) : Nat) : Int) := by
  unfold ridgewayref02_Mask.f
  have hp : 0 < 2 ^ shN n := Nat.two_pow_pos _
  rw [rsize_eq, Option.bind_some, if_neg (by omega), and_low a h.1 h.2]
  have hA : a % 4294967296 = ((lowN a : Nat) : Int) := by unfold lowN; omega
  have hl := lowN_lt a
  rw [hA, Int.tmod_eq_emod_of_nonneg (by omega)]
  have hd := Nat.div_add_mod (lowN a) (2 ^ shN n)
  have hc : cutN (lowN a) (shN n) = 2 ^ shN n * (lowN a / 2 ^ shN n) := by unfold cutN; rw [Nat.mul_comm]
  rw [← hc] at hd
  have hm : ((lowN a : Nat) : Int) % ((2 ^ shN n : Nat) : Int) = ((lowN a % 2 ^ shN n : Nat) : Int) := by omega
  rw [hm]
  obtain ⟨q, hq⟩ : ∃ q, q = lowN a % 2 ^ shN n := ⟨_, rfl⟩
  rw [← hq] at hd ⊢
  congr 1
  unfold wrap64
  omega
theorem rsane_eq (k : Nat) (a n : Int) (h : i64 a) : ridgewayref02_Sane.f (k + 33) a n = some (saneP a n) := by
  unfold ridgewayref02_Sane.f
  have hc := cutN_le (lowN a) (shN n)
  have hl := lowN_lt a
  have no : ¬ (0 ≤ n ∧ n ≤ 32 ∧ 0 ≤ a ∧ a ≤ 4294967295) → saneP a n = false := by
    intro hn
    cases hs : saneP a n
    · rfl
    · exfalso
      obtain ⟨h0, h1, h3⟩ := (saneP_iff a n).1 hs
      exact hn ⟨h0, h1, by omega, by omega⟩
  by_cases h1 : n ≥ 0
  · rw [if_pos h1]
    by_cases h2 : n ≤ 32
    · rw [if_pos h2]
      by_cases h3 : a ≥ 0
      · rw [if_pos h3]
        by_cases h4 : a ≤ 4294967295
        · rw [if_pos h4, rmask_eq k a n h, Option.bind_some]
          unfold saneP
          rw [decide_eq_true h1, decide_eq_true h2]
          congr 1
          rw [Bool.true_and, Bool.true_and]
          exact Bool.beq_comm
        · rw [if_neg h4, no (fun h => h4 h.2.2.2)]
      · rw [if_neg h3, no (fun h => h3 h.2.2.1)]
    · rw [if_neg h2, no (fun h => h2 h.2.1)]
  · rw [if_neg h1, no (fun h => h1 h.1)]
theorem rhas_eq (k : Nat) (a n b m : Int) (h : i64 a) (hb : i64 b) : ridgewayref02_Has.f (k + 33) a n b m = some (hasP a n b m) := by
  unfold ridgewayref02_Has.f hasP
  rw [rsane_eq k a n h, Option.bind_some]
  cases h1 : saneP a n
  · simp
  · rw [if_pos rfl, rsane_eq k b m hb, Option.bind_some]
    cases h2 : saneP b m
    · simp
    · rw [if_pos rfl]
      by_cases h3 : n ≤ m
      · rw [if_pos (by omega), rmask_eq k b n hb, Option.bind_some]
        simp [h3]
      · rw [if_neg (by omega)]
        simp [h3]
theorem rcompare_eq (k : Nat) (a b c d : Int) : ridgewayref02_Compare.f (k + 1) a b c d = some (cmpP a b c d) := by
  unfold ridgewayref02_Compare.f cmpP cmpI
  simp only [ridgewayref02_Compare.j0]
  by_cases h1 : a < c
  · rw [if_pos h1, if_pos trivial]
    simp [h1]
  · rw [if_neg h1]
    by_cases h2 : a = c
    · subst h2
      rw [if_pos rfl]
      by_cases h3 : b < d
      · simp [h3]
      · by_cases h4 : b = d
        · subst h4
          simp
        · have h5 : b > d := by omega
          simp [h3, h4, h5]
    · have h3 : a > c := by omega
      simp [h1, h2, h3]
theorem rput_go (k : Nat) (acc : List Int) (i : Nat) (a n : Int) (s : Nat) (hs : s ≤ 4) (hn : wrap64 (Int.tdiv (wrap64 (n + 7)) 8) = (s : Int)) (hi : i < s) (hl : acc.length < 140737488355328) :
    ridgewayref02_Put.l0 (k + 1) acc (i : Int) a n = ridgewayref02_Put.l0 k (acc ++ [(bytesP a).getD i 0]) ((i + 1 : Nat) : Int) a n := by
  have hw : wrap64 ((i : Int) + 1) = ((i + 1 : Nat) : Int) := by unfold wrap64; omega
  have e : IntKind.u64.wrap (wrap64 (24 - (wrap64 (8 * (i : Int))))) = ((24 - 8 * i : Nat) : Int) := by
    have : i = 0 ∨ i = 1 ∨ i = 2 ∨ i = 3 := by omega
    rcases this with rfl | rfl | rfl | rfl <;> decide +kernel
  have hb : (shr .i64 a ((24 - 8 * i : Nat) : Int)) % 256 = (bytesP a).getD i 0 := by
    have : i = 0 ∨ i = 1 ∨ i = 2 ∨ i = 3 := by omega
    rw [shr_eq a (24 - 8 * i) (by omega)]
    rcases this with rfl | rfl | rfl | rfl
    · rfl
    · rfl
    · rfl
    · show a / 1 % 256 = a % 256
      rw [Int.ediv_one]
  rw [ridgewayref02_Put.l0, hn, if_pos (by omega), e, if_pos (by omega), if_pos hl, hb, hw]
theorem rput_end (k : Nat) (acc : List Int) (a n : Int) (s : Nat) (hn : wrap64 (Int.tdiv (wrap64 (n + 7)) 8) = (s : Int)) : ridgewayref02_Put.l0 (k + 1) acc (s : Int) a n = some acc := by
  rw [ridgewayref02_Put.l0, hn, if_neg (by omega)]
theorem rput_loop (k : Nat) (a n : Int) (s : Nat) (hs : s ≤ 4) (hn : wrap64 (Int.tdiv (wrap64 (n + 7)) 8) = (s : Int)) : ∀ (d i : Nat) (acc : List Int), i + d = s → acc.length + d < 140737488355328 → ridgewayref02_Put.l0 (k + d + 1) acc (i : Int) a n = some (acc ++ ((bytesP a).drop i).take d)
  | 0, i, acc, h, hl => by
    obtain rfl : i = s := by omega
    rw [Nat.add_zero, rput_end k acc a n i hn]
    simp
  | d + 1, i, acc, h, hl => by
    rw [show k + (d + 1) + 1 = (k + d + 1) + 1 by omega, rput_go _ acc i a n s hs hn (by omega) (by omega), rput_loop k a n s hs hn d (i + 1) _ (by omega) (by simp; omega)]
    have hlt : i < (bytesP a).length := by rw [bytesP_len]; omega
    rw [List.drop_eq_getElem_cons hlt, List.take_succ_cons, List.append_assoc, List.getD_eq_getElem?_getD, List.getElem?_eq_getElem hlt]
    rfl
theorem rput_eq (k : Nat) (l : List Int) (a n : Int) (ha : i64 a) (hl : l.length + 6 < 140737488355328) : ridgewayref02_Put.f (k + 33) l a n = some (if saneP a n = true then l ++ putP a n else l) := by
  unfold ridgewayref02_Put.f
  rw [Option.bind_some, List.nil_append, if_pos (by simp; omega), Option.bind_some, rsane_eq k a n ha, Option.bind_some]
  by_cases hs : saneP a n = true
  · obtain ⟨h0, h1, -⟩ := (saneP_iff a n).1 hs
    have h4 := szP_le h1
    rw [if_pos hs, if_pos hs, if_pos (by omega)]
    have := rput_loop (k + 32 - szP n) a n (szP n) h4 (size_eq n h0 (by omega)) (szP n) 0 (l ++ [n % 256]) (by omega) (by simp; omega)
    rw [show k + 32 - szP n + szP n + 1 = k + 33 by omega] at this
    rw [show ((0 : Nat) : Int) = 0 from rfl] at this
    rw [this]
    unfold putP
    rw [List.append_assoc, show n % 256 = n by omega]
    rfl
  · rw [if_neg hs, if_neg hs]
/-! ### Get -/
theorem rget_go (k : Nat) (n : Int) (r T : List Int) (x : Int) (i : Nat) (s : Nat) (hs : s ≤ r.length) (hs4 : s ≤ 4) (hrl : r.length ≤ 140737488355328) (hT : T = r.take s ++ List.replicate (4 - s) 0) (hb : ∀ y ∈ r, byteI y) (hn : wrap64 (Int.tdiv (wrap64 (n + 7)) 8) = (s : Int)) (hi : i < 4) (hx0 : 0 ≤ x) (hx : x < 16777216) :
    ridgewayref02_Get.l0 (k + 1) (n :: r) n x (i : Int) = ridgewayref02_Get.l0 k (n :: r) n (x * 256 + T.getD i 0) ((i + 1 : Nat) : Int) := by
  have hw : wrap64 ((i : Int) + 1) = ((i + 1 : Nat) : Int) := by unfold wrap64; omega
  have hw' : wrap64 (1 + (i : Int)) = ((i + 1 : Nat) : Int) := by unfold wrap64; omega
  have hx2 : wrap64 (x * 256) = x * 256 := by unfold wrap64; omega
  rw [ridgewayref02_Get.l0, if_pos (by omega), hn]
  by_cases h : i < s
  · have hlt : i < r.length := by omega
    have hrd : rd (n :: r) ((i + 1 : Nat) : Int) = r[i] := by
      unfold rd
      rw [Int.toNat_natCast, List.getD_eq_getElem?_getD, List.getElem?_cons_succ, List.getElem?_eq_getElem hlt]
      rfl
    have hTi : T.getD i 0 = r[i] := by
      rw [hT, List.getD_eq_getElem?_getD, List.getElem?_append_left (by rw [List.length_take]; omega), List.getElem?_take_of_lt h, List.getElem?_eq_getElem hlt]
      rfl
    have hby := hb r[i] (List.getElem_mem hlt)
    rw [if_pos (by omega), hw', if_pos (by omega), if_pos (by rw [List.length_cons]; omega), hrd, hw, hx2, wrap_byte hby, hTi]
    unfold byteI at hby
    rw [show wrap64 (x * 256 + r[i]) = x * 256 + r[i] by unfold wrap64; omega]
  · have hTi : T.getD i 0 = 0 := by
      have hlen : (r.take s).length = s := by rw [List.length_take]; omega
      rw [hT, List.getD_eq_getElem?_getD, List.getElem?_append_right (by omega), hlen, List.getElem?_replicate]
      split <;> rfl
    rw [if_neg (by omega), hw, hx2, hTi, Int.add_zero]
theorem rget_eq (k : Nat) (l : List Int) (hl : l.length ≤ 140737488355328) (hb : ∀ x ∈ l, byteI x) : ridgewayref02_Get.f (k + 40) l = some (getP l) := by
  unfold ridgewayref02_Get.f
  cases l with
  | nil =>
    rw [if_pos (by decide)]
    rfl
  | cons n r =>
    have hnb : byteI n := hb n (by simp)
    have h0 : rd (n :: r) 0 = n := rfl
    have hlc : ((n :: r).length : Int) = (r.length : Int) + 1 := by rw [List.length_cons]; omega
    have hrl : r.length ≤ 140737488355328 := by simp only [List.length_cons] at hl; omega
    rw [if_neg (by omega), if_pos (by omega), h0, getP_cons, wrap_byte hnb]
    by_cases h : n > 32
    · rw [if_pos h, if_pos h]
      rfl
    · have hsz := size_eq n hnb.1 (by unfold byteI at hnb; omega)
      have h4 := szP_le (n := n) (by omega)
      rw [if_neg h, if_neg h, hsz]
      have e1 : wrap64 (1 + ((szP n : Nat) : Int)) = ((1 + szP n : Nat) : Int) := by unfold wrap64; omega
      rw [e1, hlc]
      by_cases h2 : szP n ≤ r.length
      · rw [if_pos h2, show decide ((r.length : Int) + 1 < ((1 + szP n : Nat) : Int)) = false by rw [decide_eq_false_iff_not]; omega]
        rw [show k + 40 = (k + 39) + 1 by omega, ridgewayref02_Get.j0, if_neg (by decide), if_pos (by omega), h0, wrap_byte hnb]
        obtain ⟨T, hT⟩ : ∃ T, T = r.take (szP n) ++ List.replicate (4 - szP n) 0 := ⟨_, rfl⟩
        rw [← hT]
        have hlen : T.length = 4 := by
          rw [hT, List.length_append, List.length_take, List.length_replicate]
          omega
        have hbr : ∀ x ∈ r, byteI x := fun x hx => hb x (List.mem_cons_of_mem _ hx)
        have hbt : ∀ x ∈ T, byteI x := by
          intro x hx
          rw [hT, List.mem_append] at hx
          rcases hx with hx | hx
          · exact hbr x (List.mem_of_mem_take hx)
          · rw [(List.mem_replicate.1 hx).2]
            constructor <;> decide
        have go := fun (j : Nat) (x : Int) (i : Nat) => rget_go j n r T x i (szP n) h2 h4 hrl hT hbr hsz
        obtain ⟨a, b, c, d, e⟩ := four_of hlen
        rw [e] at go hbt
        have ha := hbt a (by simp)
        have hb' := hbt b (by simp)
        have hc := hbt c (by simp)
        have hd := hbt d (by simp)
        unfold byteI at ha hb' hc hd
        have g0 := go (k + 38) 0 0 (by decide) (by decide) (by decide)
        have g1 := go (k + 37) (0 * 256 + a) 1 (by decide) (by omega) (by omega)
        have g2 := go (k + 36) ((0 * 256 + a) * 256 + b) 2 (by decide) (by omega) (by omega)
        have g3 := go (k + 35) (((0 * 256 + a) * 256 + b) * 256 + c) 3 (by decide) (by omega) (by omega)
        have e0 : (0 : Int) * 256 + a = a := by omega
        rw [e0] at g1 g2 g3
        have g0' : ridgewayref02_Get.l0 (k + 39) (n :: r) n 0 0 = ridgewayref02_Get.l0 (k + 38) (n :: r) n a ((1 : Nat) : Int) := by
          rw [← e0]
          exact g0
        rw [g0']
        rw [show ridgewayref02_Get.l0 (k + 38) (n :: r) n a ((1 : Nat) : Int) = _ from g1]
        rw [show ridgewayref02_Get.l0 (k + 37) (n :: r) n (a * 256 + [a, b, c, d].getD 1 0) ((1 + 1 : Nat) : Int) = _ from g2]
        rw [show ridgewayref02_Get.l0 (k + 36) (n :: r) n ((a * 256 + b) * 256 + [a, b, c, d].getD 2 0) ((2 + 1 : Nat) : Int) = _ from g3]
        rw [show k + 35 = (k + 34) + 1 by omega, ridgewayref02_Get.l0, if_neg (by decide), hsz, e1]
        unfold ridgewayref01_Take.f
        rw [if_neg (by omega), if_neg (by rw [hlc]; omega), if_pos (by omega), if_pos (by rw [hlc]; omega), Option.bind_some]
        have hv : ((a * 256 + b) * 256 + c) * 256 + [a, b, c, d].getD 3 0 = val4 T := by rw [e]; rfl
        have hv' := val4_le (l := T) (by rw [e]; exact hbt)
        rw [hv, show k + 34 = (k + 1) + 33 by omega, rmask_eq (k + 1) (val4 T) n ⟨by omega, by omega⟩, Option.bind_some]
        dsimp only
        rw [Int.toNat_natCast, Nat.add_comm 1, List.drop_succ_cons]
      · rw [if_neg h2, show decide ((r.length : Int) + 1 < ((1 + szP n : Nat) : Int)) = true by rw [decide_eq_true_iff]; omega]
        rfl
end Go.Proofs.YtckjfplocmbcmaaDoor.Pure
