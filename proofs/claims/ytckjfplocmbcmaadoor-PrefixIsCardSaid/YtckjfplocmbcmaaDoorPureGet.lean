/- What octets a prefix is put as, and what is got of octets, as plain functions. -/
import Derived.Test.YtckjfplocmbcmaaDoorPureCmp
import Derived.Test.YtckjfplocmbcmaaDoorPAllx7
import Derived.Test.YtckjfplocmbcmaaDoorPAllx2
namespace Go.Proofs.YtckjfplocmbcmaaDoor.Pure
open Go.RowKit Go.Proofs.YtckjfplocmbcmaaDoor.PAll Go.Proofs.YtckjfplocmbcmaaDoorW.PrintWords Go.Proofs.YtckjfplocmbcmaaDoorW.PrintLast Go.Proofs.YtckjfplocmbcmaaDoorW.PrintMore
set_option linter.unusedVariables false
theorem or_byte (x b : Int) (hx0 : 0 ≤ x) (hx : x < 16777216) (hb0 : 0 ≤ b) (hb : b < 256) : Go.bits .or .i64 (wrap64 (x * 256)) b = x * 256 + b := by
  rw [show wrap64 (x * 256) = x * 256 by unfold wrap64; omega]
  obtain ⟨n, rfl⟩ : ∃ n : Nat, x = n := ⟨x.toNat, by omega⟩
  obtain ⟨m, rfl⟩ : ∃ m : Nat, b = m := ⟨b.toNat, by omega⟩
  have e : (BitVec.ofInt 64 ((n : Int) * 256) ||| BitVec.ofInt 64 (m : Int)).toNat = n * 256 + m := by
    rw [BitVec.toNat_or, BitVec.toNat_ofInt, BitVec.toNat_ofInt]
    rw [show (((n : Int) * 256) % ((2 ^ 64 : Nat) : Int)).toNat = n <<< 8 by rw [Nat.shiftLeft_eq]; omega, show (((m : Int)) % ((2 ^ 64 : Nat) : Int)).toNat = m by omega, ← Nat.shiftLeft_add_eq_or_of_lt (by omega : m < 2 ^ 8), Nat.shiftLeft_eq]
  show IntKind.i64.wrap ((BitVec.ofInt 64 ((n : Int) * 256) ||| BitVec.ofInt 64 (m : Int)).toNat : Int) = _
  rw [e, IntKind.wrap_i64] <;> omega
def byteI (x : Int) : Prop := 0 ≤ x ∧ x < 256
theorem wrap_byte {b : Int} (h : byteI b) : wrap64 b = b := by obtain ⟨h0, h1⟩ := h; unfold wrap64; omega
theorem w01 : wrap64 (0 + 1) = 1 := by decide +kernel
theorem w11 : wrap64 (1 + 1) = 2 := by decide +kernel
theorem w21 : wrap64 (2 + 1) = 3 := by decide +kernel
theorem w31 : wrap64 (3 + 1) = 4 := by decide +kernel
theorem oget0 (k : Nat) : octet_Get.f (k + 1) [] 1 = some (0, [], false) := by
  unfold octet_Get.f
  rw [if_neg (by decide), if_neg (by decide)]
  rfl
theorem oget1 (k : Nat) (b : Int) (r : List Int) (hb : byteI b) : octet_Get.f (k + 4) (b :: r) 1 = some (b, r, true) := by
  unfold octet_Get.f
  have hl : decide (((b :: r).length : Int) < 1) = false := by
    rw [decide_eq_false_iff_not, List.length_cons]
    omega
  rw [if_neg (by decide), if_neg (by decide), hl]
  have r0 : rd (b :: r) 0 = b := rfl
  have hp : (0 : Int) < ((b :: r).length : Int) := by
    rw [List.length_cons]
    omega
  have hq : (1 : Int) ≤ ((b :: r).length : Int) := by
    rw [List.length_cons]
    omega
  have o0 := or_byte 0 b (by decide) (by decide) hb.1 hb.2
  simp only [octet_Get.j0, octet_Get.l0, r0, w01, wrap_byte hb, Bool.false_eq_true, if_false]
  rw [if_pos (by decide), if_pos (by decide), if_pos hp, if_neg (by decide), if_pos (by decide), if_pos hq, o0]
  simp
theorem oget4 (k : Nat) (a b c d : Int) (ha : byteI a) (hb : byteI b) (hc : byteI c) (hd : byteI d) : octet_Get.f (k + 7) [a, b, c, d] 4 = some (((a * 256 + b) * 256 + c) * 256 + d, [], true) := by
  have r0 : rd [a, b, c, d] 0 = a := rfl
  have r1 : rd [a, b, c, d] 1 = b := rfl
  have r2 : rd [a, b, c, d] 2 = c := rfl
  have r3 : rd [a, b, c, d] 3 = d := rfl
  have hl : (([a, b, c, d] : List Int).length : Int) = 4 := rfl
  have h1 := ha
  have h2 := hb
  have h3 := hc
  have h4 := hd
  unfold byteI at h1 h2 h3 h4
  have o0 := or_byte 0 a (by decide) (by decide) ha.1 ha.2
  have o1 := or_byte a b (by omega) (by omega) hb.1 hb.2
  have o2 := or_byte (a * 256 + b) c (by omega) (by omega) hc.1 hc.2
  have o3 := or_byte ((a * 256 + b) * 256 + c) d (by omega) (by omega) hd.1 hd.2
  have e0 : (0 : Int) * 256 + a = a := by omega
  rw [e0] at o0
  unfold octet_Get.f
  simp only [octet_Get.j0, octet_Get.l0, hl, r0, r1, r2, r3, w01, w11, w21, w31, wrap_byte ha, wrap_byte hb, wrap_byte hc, wrap_byte hd, o0, o1, o2, o3]
  rw [if_neg (by decide), if_neg (by decide), if_neg (by decide), if_pos (by decide), if_pos (by decide), if_pos (by decide), if_pos (by decide), if_pos (by decide), if_pos (by decide), if_pos (by decide), if_pos (by decide), if_pos (by decide), if_pos (by decide), if_pos (by decide), if_pos (by decide), if_neg (by decide), if_pos (by decide), if_pos (by decide)]
  rfl
/-- How many octets have so many bits. -/
def szP (n : Int) : Nat := ((n + 7) / 8).toNat
theorem size_eq (n : Int) (h0 : 0 ≤ n) (h1 : n ≤ 255) : wrap64 (Int.tdiv (wrap64 (n + 7)) 8) = (szP n : Int) := by
  rw [show wrap64 (n + 7) = n + 7 by unfold wrap64; omega, Int.tdiv_eq_ediv_of_nonneg (by omega)]
  unfold wrap64 szP
  omega
theorem szP_le {n : Int} (h1 : n ≤ 32) : szP n ≤ 4 := by unfold szP; omega
def val4 : List Int → Int
  | [a, b, c, d] => ((a * 256 + b) * 256 + c) * 256 + d
  | _ => 0
def getP : List Int → Int × Int × List Int × Bool
  | [] => (0, 0, [], false)
  | n :: r => if n > 32 then (0, 0, [], false) else if szP n ≤ r.length then (((cutN (lowN (val4 (r.take (szP n) ++ List.replicate (4 - szP n) 0))) (shN n) : Nat) : Int), n, r.drop (szP n), true) else (0, 0, [], false)
theorem getP_cons (n : Int) (r : List Int) : getP (n :: r) = if n > 32 then (0, 0, [], false) else if szP n ≤ r.length then (((cutN (lowN (val4 (r.take (szP n) ++ List.replicate (4 - szP n) 0))) (shN n) : Nat) : Int), n, r.drop (szP n), true) else (0, 0, [], false) := rfl
theorem four_of {l : List Int} (h : l.length = 4) : ∃ a b c d, l = [a, b, c, d] := by
  match l, h with
  | [a, b, c, d], _ => exact ⟨a, b, c, d, rfl⟩
theorem val4_le {l : List Int} (hb : ∀ x ∈ l, byteI x) : 0 ≤ val4 l ∧ val4 l < 4294967296 := by
  unfold val4
  split
  · rename_i a b c d
    have h1 : byteI a := hb a (by simp)
    have h2 : byteI b := hb b (by simp)
    have h3 : byteI c := hb c (by simp)
    have h4 : byteI d := hb d (by simp)
    unfold byteI at *
    omega
  · omega
theorem get_eq (k : Nat) (l : List Int) (hl : l.length ≤ 140737488355328) (hb : ∀ x ∈ l, byteI x) : prefix_Get.f (k + 8) l = some (getP l) := by
  unfold prefix_Get.f
  rw [if_pos hl]
  cases l with
  | nil =>
    rw [oget0, Option.bind_some]
    rfl
  | cons n r =>
    have hn : byteI n := hb n (by simp)
    rw [show k + 8 = (k + 4) + 4 by omega, oget1 _ n r hn, Option.bind_some]
    rw [if_pos rfl]
    dsimp only
    rw [getP_cons]
    by_cases h : n > 32
    · rw [if_pos h, if_pos h]
    · rw [if_neg h, if_neg h, size_eq n hn.1 (by unfold byteI at hn; omega)]
      have hr : r.length ≤ 140737488355328 := by simp only [List.length_cons] at hl; omega
      rw [if_pos ⟨hr, by omega⟩]
      by_cases h2 : szP n ≤ r.length
      · have h4 := szP_le (n := n) (by omega)
        rw [if_pos h2, if_pos (by omega), if_pos (by omega), Int.toNat_natCast]
        obtain ⟨t, ht⟩ : ∃ t, t = r.take (szP n) ++ List.replicate (4 - szP n) 0 := ⟨_, rfl⟩
        rw [← ht]
        have hlen : t.length = 4 := by
          rw [ht, List.length_append, List.length_take, List.length_replicate]
          omega
        have hbt : ∀ x ∈ t, byteI x := by
          intro x hx
          rw [ht, List.mem_append] at hx
          rcases hx with hx | hx
          · exact hb x (List.mem_cons_of_mem _ (List.mem_of_mem_take hx))
          · rw [(List.mem_replicate.1 hx).2]
            constructor <;> decide
        have hv := val4_le hbt
        obtain ⟨a, b, c, d, rfl⟩ := four_of hlen
        rw [show k + 4 + 4 = (k + 1) + 7 by omega, oget4 _ a b c d (hbt a (by simp)) (hbt b (by simp)) (hbt c (by simp)) (hbt d (by simp)), Option.bind_some]
        unfold val4 at hv ⊢
        dsimp only at hv ⊢
        rw [mask_eq _ _ (by omega) (by omega), Option.bind_some]
      · rw [if_neg h2, if_neg (by omega)]
def bytesP (a : Int) : List Int := [a / 16777216 % 256, a / 65536 % 256, a / 256 % 256, a % 256]
def putP (a n : Int) : List Int := n :: (bytesP a).take (szP n)
theorem shr_eq (x : Int) (j : Nat) (h : j ≤ 64) : shr .i64 x (j : Int) = x / 2 ^ j := by
  unfold shr
  rw [Int.toNat_natCast, show min j IntKind.i64.bits = j from Nat.min_eq_left h]
theorem oput1 (k : Nat) (l : List Int) (x : Int) (hl : l.length < 140737488355328) : octet_Put.f (k + 4) l x 1 = some (l ++ [x % 256]) := by
  have e0 : wrap64 (8 * (wrap64 ((wrap64 (1 - 1)) - 0))) = 0 := by decide +kernel
  have s0 : shr .i64 x 0 = x := by
    have := shr_eq x 0 (by decide)
    simpa using this
  unfold octet_Put.f slices_Clone_byte_byte.f
  rw [if_pos hl, Option.bind_some, if_neg (by decide), show decide ((1 : Int) > 4) = false by decide]
  simp only [octet_Put.j0, octet_Put.l0, e0, s0, w01, Bool.false_eq_true, if_false]
  rw [if_pos (by decide), if_pos (by decide), if_pos hl, if_neg (by decide)]
theorem oput4 (k : Nat) (x : Int) : octet_Put.f (k + 7) [] x 4 = some (bytesP x) := by
  have e0 : wrap64 (8 * (wrap64 ((wrap64 (4 - 1)) - 0))) = 24 := by decide +kernel
  have e1 : wrap64 (8 * (wrap64 ((wrap64 (4 - 1)) - 1))) = 16 := by decide +kernel
  have e2 : wrap64 (8 * (wrap64 ((wrap64 (4 - 1)) - 2))) = 8 := by decide +kernel
  have e3 : wrap64 (8 * (wrap64 ((wrap64 (4 - 1)) - 3))) = 0 := by decide +kernel
  have s0 : shr .i64 x 24 = x / 16777216 := shr_eq x 24 (by decide)
  have s1 : shr .i64 x 16 = x / 65536 := shr_eq x 16 (by decide)
  have s2 : shr .i64 x 8 = x / 256 := shr_eq x 8 (by decide)
  have s3 : shr .i64 x 0 = x := by
    have := shr_eq x 0 (by decide)
    simpa using this
  unfold octet_Put.f slices_Clone_byte_byte.f
  rw [if_pos (by decide), Option.bind_some, if_neg (by decide), show decide ((4 : Int) > 4) = false by decide]
  simp only [octet_Put.j0, octet_Put.l0, e0, e1, e2, e3, s0, s1, s2, s3, w01, w11, w21, w31, Bool.false_eq_true, if_false, List.nil_append, List.cons_append]
  rw [if_pos (by decide), if_pos (by decide), if_pos (by decide), if_pos (by decide), if_pos (by decide), if_pos (by simp), if_pos (by decide), if_pos (by decide), if_pos (by simp), if_pos (by decide), if_pos (by decide), if_pos (by simp), if_neg (by decide)]
  rfl
theorem bytesP_len (a : Int) : (bytesP a).length = 4 := rfl
theorem put_eq (k : Nat) (l : List Int) (a n : Int) (ha : i64 a) (hs : saneP a n = true) (hl : l.length + 5 < 140737488355328) : prefix_Put.f (k + 8) l a n = some (l ++ putP a n) := by
  obtain ⟨h0, h1, -⟩ := (saneP_iff a n).1 hs
  have h4 := szP_le h1
  unfold prefix_Put.f
  rw [sane_eq a n ha, Option.bind_some, hs, if_pos rfl, show k + 8 = (k + 4) + 4 by omega, oput1 _ l n (by omega), Option.bind_some, show k + 4 + 4 = (k + 1) + 7 by omega, oput4, Option.bind_some]
  unfold prefix_size.f
  rw [size_eq n h0 (by omega), Option.bind_some, if_pos (by omega), bytesP_len, if_pos (by omega), Option.bind_some, Int.toNat_natCast, if_pos (by rw [List.length_append, List.length_take, bytesP_len, List.length_singleton]; omega)]
  unfold putP
  rw [List.append_assoc, show n % 256 = n by omega]
  rfl
theorem put_no (k : Nat) (l : List Int) (a n : Int) (ha : i64 a) (hs : saneP a n = false) (hl : l.length < 140737488355328) : prefix_Put.f k l a n = some l := by
  unfold prefix_Put.f slices_Clone_byte_byte.f
  rw [sane_eq a n ha, Option.bind_some, hs, if_neg (by decide), if_pos hl, Option.bind_some]
theorem bytesP_byte (a : Int) : ∀ x ∈ bytesP a, byteI x := by
  intro x hx
  unfold bytesP at hx
  simp only [List.mem_cons, List.not_mem_nil, or_false] at hx
  unfold byteI
  rcases hx with rfl | rfl | rfl | rfl <;> omega
theorem putP_byte {a n : Int} (h0 : 0 ≤ n) (h1 : n ≤ 32) : ∀ x ∈ putP a n, byteI x := by
  intro x hx
  unfold putP at hx
  rcases List.mem_cons.1 hx with rfl | hx
  · unfold byteI
    omega
  · exact bytesP_byte a x (List.mem_of_mem_take hx)
theorem putP_len {a n : Int} (h1 : n ≤ 32) : (putP a n).length = 1 + szP n := by
  have := szP_le h1
  unfold putP
  rw [List.length_cons, List.length_take, bytesP_len]
  omega
theorem val_take (a : Int) (h : ((lowN a : Nat) : Int) = a) (s : Nat) (hs : s ≤ 4) : val4 ((bytesP a).take s ++ List.replicate (4 - s) 0) = ((cutN (lowN a) (32 - 8 * s) : Nat) : Int) := by
  have hlt := lowN_lt a
  obtain ⟨m, hm⟩ : ∃ m, m = lowN a := ⟨_, rfl⟩
  rw [← hm] at h hlt ⊢
  subst h
  clear hm
  have e : s = 0 ∨ s = 1 ∨ s = 2 ∨ s = 3 ∨ s = 4 := by omega
  unfold bytesP cutN
  rcases e with rfl | rfl | rfl | rfl | rfl
  · show (((0 : Int) * 256 + 0) * 256 + 0) * 256 + 0 = _
    rw [show (2 : Nat) ^ (32 - 8 * 0) = 4294967296 from rfl]
    omega
  · show (((m : Int) / 16777216 % 256 * 256 + 0) * 256 + 0) * 256 + 0 = _
    rw [show (2 : Nat) ^ (32 - 8 * 1) = 16777216 from rfl]
    omega
  · show (((m : Int) / 16777216 % 256 * 256 + (m : Int) / 65536 % 256) * 256 + 0) * 256 + 0 = _
    rw [show (2 : Nat) ^ (32 - 8 * 2) = 65536 from rfl]
    omega
  · show (((m : Int) / 16777216 % 256 * 256 + (m : Int) / 65536 % 256) * 256 + (m : Int) / 256 % 256) * 256 + 0 = _
    rw [show (2 : Nat) ^ (32 - 8 * 3) = 256 from rfl]
    omega
  · show (((m : Int) / 16777216 % 256 * 256 + (m : Int) / 65536 % 256) * 256 + (m : Int) / 256 % 256) * 256 + (m : Int) % 256 = _
    rw [show (2 : Nat) ^ (32 - 8 * 4) = 1 from rfl]
    omega
theorem get_put (a n : Int) (more : List Int) (hs : saneP a n = true) : getP (putP a n ++ more) = (a, n, more, true) := by
  obtain ⟨h0, h1, h3⟩ := (saneP_iff a n).1 hs
  have hlow := sane_low hs
  have h4 := szP_le h1
  have hlt : ((bytesP a).take (szP n)).length = szP n := by rw [List.length_take, bytesP_len]; omega
  show getP (n :: ((bytesP a).take (szP n) ++ more)) = _
  rw [getP_cons, if_neg (by omega), if_pos (by rw [List.length_append, hlt]; omega)]
  have et : ((bytesP a).take (szP n) ++ more).take (szP n) = (bytesP a).take (szP n) := List.take_left' hlt
  have ed : ((bytesP a).take (szP n) ++ more).drop (szP n) = more := List.drop_left' hlt
  rw [et, ed, val_take a hlow _ h4, low_cut, cutN_cut]
  have : 32 - 8 * szP n ≤ shN n := by
    unfold szP shN mx mn
    repeat' split <;> omega
  rw [Nat.max_eq_right this, ← h3]
theorem cut_i64' (x : Int) (s : Nat) : i64 ((cutN (lowN x) s : Nat) : Int) := by
  have := cutN_le (lowN x) s
  have := lowN_lt x
  constructor <;> omega
/-- What is got is a prefix, and what is left is behind it. -/
theorem getP_ok {l : List Int} {p n : Int} {r : List Int} (hb : ∀ x ∈ l, byteI x) (h : getP l = (p, n, r, true)) : saneP p n = true ∧ i64 p ∧ r.length + (1 + szP n) = l.length ∧ (∀ x ∈ r, byteI x) ∧ 0 ≤ n ∧ n ≤ 32 := by
  cases l with
  | nil => simp [getP] at h
  | cons m t =>
    have hm : byteI m := hb m (by simp)
    rw [getP_cons] at h
    by_cases h1 : m > 32
    · rw [if_pos h1] at h
      simp at h
    · rw [if_neg h1] at h
      by_cases h2 : szP m ≤ t.length
      · rw [if_pos h2] at h
        simp only [Prod.mk.injEq, and_true] at h
        obtain ⟨rfl, rfl, rfl⟩ := h
        refine ⟨?_, cut_i64' _ _, ?_, ?_, hm.1, by omega⟩
        · refine (saneP_iff _ _).2 ⟨hm.1, by omega, ?_⟩
          rw [low_cut, cutN_cut, Nat.max_self]
        · rw [List.length_drop, List.length_cons]
          omega
        · exact fun x hx => hb x (List.mem_cons_of_mem _ (List.mem_of_mem_drop hx))
      · rw [if_neg h2] at h
        simp at h
theorem getP_no {l : List Int} (h : (getP l).2.2.2 = false) : getP l = (0, 0, [], false) := by
  cases l with
  | nil => rfl
  | cons m t =>
    rw [getP_cons] at h ⊢
    by_cases h1 : m > 32
    · rw [if_pos h1]
    · rw [if_neg h1] at h ⊢
      by_cases h2 : szP m ≤ t.length
      · rw [if_pos h2] at h
        simp at h
      · rw [if_neg h2]
end Go.Proofs.YtckjfplocmbcmaaDoor.Pure
