/- How the document's answer writes and reads a prefix: the same. -/
import Derived.Test.YtckjfplocmbcmaaDoorPureRef
namespace Go.Proofs.YtckjfplocmbcmaaDoor.Pure
open Go.RowKit Go.Proofs.YtckjfplocmbcmaaDoor.PAll Go.Proofs.YtckjfplocmbcmaaDoorW.PrintWords Go.Proofs.YtckjfplocmbcmaaDoorW.PrintLast Go.Proofs.YtckjfplocmbcmaaDoorW.PrintMore
set_option linter.unusedVariables false
theorem digits_all : ∀ n : Fin 256, ridgewayref02_Digits.f 4 (n.val : Int) = some (itoaB (n.val : Int)) := by decide +kernel
theorem more_mono {α : Type} (g : Nat → Option α) (h : ∀ k, LeO (g k) (g (k + 1))) {m : Nat} {v : α} (hm : g m = some v) : ∀ j, g (m + j) = some v
  | 0 => hm
  | j + 1 => h _ _ (more_mono g h hm j)
theorem digits_eq (k : Nat) {n : Int} (h : byteI n) : ridgewayref02_Digits.f (k + 4) n = some (itoaB n) := by
  have := digits_all ⟨n.toNat, by unfold byteI at h; omega⟩
  rw [show ((n.toNat : Nat) : Int) = n by unfold byteI at h; omega] at this
  rw [Nat.add_comm]
  exact more_mono (fun k => ridgewayref02_Digits.f k n) (fun k => ridgewayref02_Digits.mono n k) this k
theorem rtext_eq (k : Nat) (a n : Int) (ha : i64 a) : ridgewayref02_Text.f (k + 33) a n = some (if saneP a n = true then textP a n else ⟨#[]⟩) := by
  unfold ridgewayref02_Text.f
  rw [rsane_eq k a n ha, Option.bind_some]
  by_cases hs : saneP a n = true
  · obtain ⟨h0, h1, -⟩ := (saneP_iff a n).1 hs
    have hlow := sane_low hs
    have hlt := lowN_lt a
    rw [if_pos hs, if_pos hs]
    have e1 : wrap64 (Int.tdiv a 16777216) = a / 16777216 % 256 := by
      rw [Int.tdiv_eq_ediv_of_nonneg (by omega)]
      unfold wrap64
      omega
    have e2 : Int.tmod (wrap64 (Int.tdiv a 65536)) 256 = a / 65536 % 256 := by
      rw [Int.tdiv_eq_ediv_of_nonneg (by omega), show wrap64 (a / 65536) = a / 65536 by unfold wrap64; omega, Int.tmod_eq_emod_of_nonneg (by omega)]
    have e3 : Int.tmod (wrap64 (Int.tdiv a 256)) 256 = a / 256 % 256 := by
      rw [Int.tdiv_eq_ediv_of_nonneg (by omega), show wrap64 (a / 256) = a / 256 by unfold wrap64; omega, Int.tmod_eq_emod_of_nonneg (by omega)]
    have e4 : Int.tmod a 256 = a % 256 := Int.tmod_eq_emod_of_nonneg (by omega)
    rw [e1, e2, e3, e4]
    have hb := bytesP_byte a
    have hB : (bytesP a).map Lib.itoa = [Lib.itoa (a / 16777216 % 256), Lib.itoa (a / 65536 % 256), Lib.itoa (a / 256 % 256), Lib.itoa (a % 256)] := rfl
    have hn : byteI n := by constructor <;> omega
    obtain ⟨x, y, z, u, e⟩ := four_of (bytesP_len a)
    have e' : bytesP a = [a / 16777216 % 256, a / 65536 % 256, a / 256 % 256, a % 256] := rfl
    rw [e] at e' hb
    simp only [List.cons.injEq, and_true] at e'
    unfold textP textL
    rw [hB, ← e'.1, ← e'.2.1, ← e'.2.2.1, ← e'.2.2.2]
    have hx := hb x (by simp)
    have hy := hb y (by simp)
    have hz := hb z (by simp)
    have hu := hb u (by simp)
    have zs : ∀ v, (itoaB v).size = (Lib.itoa v).length := fun v => by unfold itoaB; exact mkSize _
    have l1 := (dig_ok hx).2.1
    have l2 := (dig_ok hy).2.1
    have l3 := (dig_ok hz).2.1
    have l4 := (dig_ok hu).2.1
    have l5 := (dig_ok hn).2.1
    rw [show k + 33 = k + 29 + 4 by omega, digits_eq _ hx, digits_eq _ hy, digits_eq _ hz, digits_eq _ hu, digits_eq _ hn]
    simp only [Option.bind_some, zs]
    repeat rw [if_pos (by omega)]
    congr 1
    apply baExt
    rw [join4]
    simp [itoaB_data]
  · rw [if_neg hs, if_neg hs]
/-! ### Parts -/
theorem bt_list {s : ByteArray} {L : List UInt8} (h : s.data.toList = L) (i : Nat) (hi : i < L.length) : bt s (i : Int) = ((L[i]).toNat : Int) := by
  subst h
  have hs : i < s.size := by rw [← sizeB]; exact hi
  unfold bt
  rw [Int.toNat_natCast, dif_pos hs]
  rfl
theorem extract_of {s : ByteArray} {L : List UInt8} (h : s.data.toList = L) (i j : Nat) : s.extract i j = ⟨((L.take j).drop i).toArray⟩ := by
  apply baExt
  subst h
  simp [ByteArray.data_extract, List.extract_eq_take_drop, List.drop_take]
theorem part_hit (k : Nat) (s : ByteArray) (c : UInt8) (A T : List UInt8) (h : s.data.toList = A ++ c :: T) (hA : c ∉ A) (hl : s.size ≤ 100000) : ∀ (d i : Nat), i + d = A.length → ridgewayref02_Part.l0 (k + d + 1) s (c.toNat : Int) (i : Int) = some (⟨A.toArray⟩, ⟨T.toArray⟩)
  | 0, i, hi => by
    have hsz : s.size = A.length + (T.length + 1) := by rw [← sizeB, h, List.length_append, List.length_cons]
    obtain rfl : i = A.length := by omega
    have hb : bt s ((A.length : Nat) : Int) = (c.toNat : Int) := by
      rw [bt_list h A.length (by simp)]
      simp
    have hw : wrap64 ((A.length : Int) + 1) = ((A.length + 1 : Nat) : Int) := by unfold wrap64; omega
    rw [ridgewayref02_Part.l0, if_pos (by omega), if_pos (by omega), hb, if_pos rfl, if_pos (by omega), hw, if_pos (by omega), if_pos (by omega), Int.toNat_natCast, Int.toNat_natCast, extract_of h, extract_of h, hsz]
    congr 2
    · simp
    · have e1 : (A ++ c :: T).take (A.length + (T.length + 1)) = A ++ c :: T := List.take_of_length_le (by simp)
      rw [e1]
      have e2 : (A ++ c :: T).drop (A.length + 1) = T := by
        rw [List.drop_append]
        simp
      rw [e2]
  | d + 1, i, hi => by
    have hsz : s.size = A.length + (T.length + 1) := by rw [← sizeB, h, List.length_append, List.length_cons]
    have hlt : i < A.length := by omega
    have hb : bt s ((i : Nat) : Int) = ((A[i]).toNat : Int) := by
      rw [bt_list h i (by rw [List.length_append]; omega)]
      simp [List.getElem_append_left hlt]
    have hne : ¬ (((A[i]).toNat : Int) = (c.toNat : Int)) := by
      intro e
      have e' : (A[i]).toNat = c.toNat := by omega
      exact hA (by rw [← UInt8.toNat_inj.1 e']; exact List.getElem_mem hlt)
    have hw : wrap64 ((i : Int) + 1) = ((i + 1 : Nat) : Int) := by unfold wrap64; omega
    rw [ridgewayref02_Part.l0, if_pos (by omega), if_pos (by omega), hb, if_neg hne, hw, show k + (d + 1) = k + d + 1 by omega]
    exact part_hit k s c A T h hA hl d (i + 1) (by omega)
theorem part_miss (k : Nat) (s : ByteArray) (c : UInt8) (hc : c ∉ s.data.toList) (hl : s.size ≤ 100000) : ∀ (d i : Nat), i + d = s.size → ridgewayref02_Part.l0 (k + d + 1) s (c.toNat : Int) (i : Int) = some (⟨#[]⟩, s)
  | 0, i, hi => by rw [ridgewayref02_Part.l0, if_neg (by omega)]
  | d + 1, i, hi => by
    have hlt : i < s.data.toList.length := by rw [sizeB]; omega
    have hb : bt s ((i : Nat) : Int) = ((s.data.toList[i]).toNat : Int) := bt_list rfl i hlt
    have hne : ¬ (((s.data.toList[i]).toNat : Int) = (c.toNat : Int)) := by
      intro e
      have e' : (s.data.toList[i]).toNat = c.toNat := by omega
      exact hc (by rw [← UInt8.toNat_inj.1 e']; exact List.getElem_mem hlt)
    have hw : wrap64 ((i : Int) + 1) = ((i + 1 : Nat) : Int) := by unfold wrap64; omega
    rw [ridgewayref02_Part.l0, if_pos (by omega), if_pos (by omega), hb, if_neg hne, hw, show k + (d + 1) = k + d + 1 by omega]
    exact part_miss k s c hc hl d (i + 1) (by omega)
theorem part_at (k : Nat) (s : ByteArray) (c : UInt8) (A T : List UInt8) (h : s.data.toList = A ++ c :: T) (hA : c ∉ A) (hl : s.size ≤ 70) : ridgewayref02_Part.f (k + 71) s (c.toNat : Int) = some (⟨A.toArray⟩, ⟨T.toArray⟩) := by
  have hsz : s.size = A.length + (T.length + 1) := by rw [← sizeB, h, List.length_append, List.length_cons]
  have := part_hit (k + 70 - A.length) s c A T h hA (by omega) A.length 0 (by omega)
  rw [show k + 70 - A.length + A.length + 1 = k + 71 by omega] at this
  exact this
theorem part_no (k : Nat) (s : ByteArray) (c : UInt8) (hc : c ∉ s.data.toList) (hl : s.size ≤ 70) : ridgewayref02_Part.f (k + 71) s (c.toNat : Int) = some (⟨#[]⟩, s) := by
  have := part_miss (k + 70 - s.size) s c hc (by omega) s.size 0 (by omega)
  rw [show k + 70 - s.size + s.size + 1 = k + 71 by omega] at this
  exact this
theorem part_spec (k : Nat) (s : ByteArray) (c : UInt8) (hl : s.size ≤ 70) : ridgewayref02_Part.f (k + 71) s (c.toNat : Int) = some (⟨#[]⟩, s) ∧ c ∉ s.data.toList ∨ ∃ A T : List UInt8, s.data.toList = A ++ c :: T ∧ c ∉ A ∧ A.length + (T.length + 1) = s.size ∧ ridgewayref02_Part.f (k + 71) s (c.toNat : Int) = some (⟨A.toArray⟩, ⟨T.toArray⟩) := by
  rcases index_apart c s.data.toList with ⟨_, hn⟩ | ⟨A, T, e, hn, _⟩
  · exact .inl ⟨part_no k s c hn hl, hn⟩
  · exact .inr ⟨A, T, e, hn, by rw [← sizeB, e, List.length_append, List.length_cons], part_at k s c A T e hn hl⟩
/-! ### Numbers -/
theorem num_loop (k : Nat) (s : ByteArray) (most : Int) (hm : byteI most) (hs : s.size ≤ 10) : ∀ (d i : Nat) (acc : Int), i + d = s.size → 0 ≤ acc → acc < ((10 ^ i : Nat) : Int) → ∃ v, ridgewayref02_Number.l0 (k + 4 + d + 1) s most acc (i : Int) = some v ∧ (v = -1 ∨ 0 ≤ v ∧ v ≤ most ∧ itoaB v = s)
  | 0, i, acc, hi, h0, h1 => by
    rw [ridgewayref02_Number.l0, if_neg (by omega)]
    by_cases h : acc > most
    · rw [if_pos h]
      exact ⟨-1, rfl, .inl rfl⟩
    · have hb : byteI acc := by unfold byteI at hm ⊢; omega
      rw [if_neg h, show k + 4 + 0 = k + 4 by omega, digits_eq k hb, Option.bind_some]
      by_cases he : (itoaB acc).toList = s.toList
      · rw [if_pos he]
        refine ⟨acc, rfl, .inr ⟨h0, by omega, ?_⟩⟩
        rw [ByteArray.toList_eq, ByteArray.toList_eq] at he
        exact baExt he
      · rw [if_neg he]
        exact ⟨-1, rfl, .inl rfl⟩
  | d + 1, i, acc, hi, h0, h1 => by
    have hp : (10 : Nat) ^ i ≤ 10 ^ 9 := Nat.pow_le_pow_right (by decide) (by omega)
    have e9 : (10 : Nat) ^ 9 = 1000000000 := by decide
    have hw : wrap64 ((i : Int) + 1) = ((i + 1 : Nat) : Int) := by unfold wrap64; omega
    rw [ridgewayref02_Number.l0, if_pos (by omega), if_pos (by omega)]
    obtain ⟨b, hb⟩ : ∃ b, b = bt s (i : Int) := ⟨_, rfl⟩
    rw [← hb]
    by_cases h2 : b < 48
    · rw [if_pos h2]
      exact ⟨-1, rfl, .inl rfl⟩
    · by_cases h3 : b > 57
      · rw [if_neg h2, if_pos h3]
        exact ⟨-1, rfl, .inl rfl⟩
      · rw [if_neg h2, if_neg h3, hw]
        have e : wrap64 ((wrap64 ((wrap64 (acc * 10)) + (wrap64 b))) - 48) = acc * 10 + b - 48 := by
          rw [show wrap64 (acc * 10) = acc * 10 by unfold wrap64; omega, show wrap64 b = b by unfold wrap64; omega, show wrap64 (acc * 10 + b) = acc * 10 + b by unfold wrap64; omega]
          unfold wrap64
          omega
        rw [e, show k + 4 + (d + 1) = k + 4 + d + 1 by omega]
        exact num_loop k s most hm hs d (i + 1) (acc * 10 + b - 48) (by omega) (by omega) (by rw [Nat.pow_succ]; omega)
theorem rnum_spec (k : Nat) (s : ByteArray) (most : Int) (hm : byteI most) : ∃ v, ridgewayref02_Number.f (k + 20) s most = some v ∧ (v = -1 ∨ 0 ≤ v ∧ v ≤ most ∧ itoaB v = s) := by
  unfold ridgewayref02_Number.f
  by_cases h0 : (s.size : Int) = 0
  · rw [if_pos h0]
    exact ⟨-1, rfl, .inl rfl⟩
  · rw [if_neg h0]
    by_cases h1 : (s.size : Int) > 10
    · rw [decide_eq_true h1]
      exact ⟨-1, rfl, .inl rfl⟩
    · rw [decide_eq_false h1, show k + 20 = (k + 19) + 1 by omega, ridgewayref02_Number.j0, if_neg (by decide)]
      obtain ⟨v, h2, h3⟩ := num_loop (k + 14 - s.size) s most hm (by omega) s.size 0 0 (by omega) (by decide) (by decide)
      rw [show k + 14 - s.size + 4 + s.size + 1 = k + 19 by omega] at h2
      exact ⟨v, h2, h3⟩
theorem num_all : ∀ n : Fin 256, ridgewayref02_Number.f 20 (itoaB (n.val : Int)) 255 = some (n.val : Int) := by decide +kernel
theorem num_32 : ∀ n : Fin 33, ridgewayref02_Number.f 20 (itoaB (n.val : Int)) 32 = some (n.val : Int) := by decide +kernel
theorem rnum_255 (k : Nat) {n : Int} (h : byteI n) : ridgewayref02_Number.f (k + 20) (itoaB n) 255 = some n := by
  have := num_all ⟨n.toNat, by unfold byteI at h; omega⟩
  rw [show ((n.toNat : Nat) : Int) = n by unfold byteI at h; omega] at this
  rw [Nat.add_comm]
  exact more_mono (fun k => ridgewayref02_Number.f k (itoaB n) 255) (fun k => ridgewayref02_Number.mono _ _ k) this k
theorem rnum_32 (k : Nat) {n : Int} (h0 : 0 ≤ n) (h1 : n ≤ 32) : ridgewayref02_Number.f (k + 20) (itoaB n) 32 = some n := by
  have := num_32 ⟨n.toNat, by omega⟩
  rw [show ((n.toNat : Nat) : Int) = n by omega] at this
  rw [Nat.add_comm]
  exact more_mono (fun k => ridgewayref02_Number.f k (itoaB n) 32) (fun k => ridgewayref02_Number.mono _ _ k) this k
/-! ### An address -/
theorem addr_loop (k : Nat) (p q r s : ByteArray) (v0 v1 v2 v3 : Int) (h0 : ridgewayref02_Number.f (k + 24) p 255 = some v0) (h1 : ridgewayref02_Number.f (k + 23) q 255 = some v1) (h2 : ridgewayref02_Number.f (k + 22) r 255 = some v2) (h3 : ridgewayref02_Number.f (k + 21) s 255 = some v3) (b0 : v0 ≤ 255) (b1 : v1 ≤ 255) (b2 : v2 ≤ 255) (b3 : v3 ≤ 255) :
    ridgewayref02_Addr.l0 (k + 25) [p, q, r, s] 0 0 = some (if v0 < 0 ∨ v1 < 0 ∨ v2 < 0 ∨ v3 < 0 then -1 else ((v0 * 256 + v1) * 256 + v2) * 256 + v3) := by
  have r0 : rdOf ByteArray.empty [p, q, r, s] 0 = p := rfl
  have r1 : rdOf ByteArray.empty [p, q, r, s] 1 = q := rfl
  have r2 : rdOf ByteArray.empty [p, q, r, s] 2 = r := rfl
  have r3 : rdOf ByteArray.empty [p, q, r, s] 3 = s := rfl
  have hl : (([p, q, r, s] : List ByteArray).length : Int) = 4 := rfl
  have wv : ∀ x v : Int, 0 ≤ x → x < 16777216 → 0 ≤ v → v ≤ 255 → wrap64 ((wrap64 (x * 256)) + v) = x * 256 + v := by
    intro x v hx hx' hv hv'
    rw [show wrap64 (x * 256) = x * 256 by unfold wrap64; omega]
    unfold wrap64
    omega
  rw [show k + 25 = (k + 24) + 1 by omega, ridgewayref02_Addr.l0, if_pos (by decide), if_pos (by decide), if_pos (by rw [hl]; decide), r0, h0, Option.bind_some, w01]
  by_cases c0 : v0 < 0
  · rw [if_pos c0, if_pos (.inl c0)]
  · rw [if_neg c0, wv 0 v0 (by decide) (by decide) (by omega) b0, show (0 : Int) * 256 + v0 = v0 by omega]
    rw [show k + 24 = (k + 23) + 1 by omega, ridgewayref02_Addr.l0, if_pos (by decide), if_pos (by decide), if_pos (by rw [hl]; decide), r1, h1, Option.bind_some, w11]
    by_cases c1 : v1 < 0
    · rw [if_pos c1, if_pos (.inr (.inl c1))]
    · rw [if_neg c1, wv v0 v1 (by omega) (by omega) (by omega) b1]
      rw [show k + 23 = (k + 22) + 1 by omega, ridgewayref02_Addr.l0, if_pos (by decide), if_pos (by decide), if_pos (by rw [hl]; decide), r2, h2, Option.bind_some, w21]
      by_cases c2 : v2 < 0
      · rw [if_pos c2, if_pos (.inr (.inr (.inl c2)))]
      · rw [if_neg c2, wv (v0 * 256 + v1) v2 (by omega) (by omega) (by omega) b2]
        rw [show k + 22 = (k + 21) + 1 by omega, ridgewayref02_Addr.l0, if_pos (by decide), if_pos (by decide), if_pos (by rw [hl]; decide), r3, h3, Option.bind_some, w31]
        by_cases c3 : v3 < 0
        · rw [if_pos c3, if_pos (.inr (.inr (.inr c3)))]
        · rw [if_neg c3, wv ((v0 * 256 + v1) * 256 + v2) v3 (by omega) (by omega) (by omega) b3]
          rw [show k + 21 = (k + 20) + 1 by omega, ridgewayref02_Addr.l0, if_neg (by decide), if_neg (by omega)]
theorem le_of_num {v most : Int} {s : ByteArray} (hm : byteI most) (h : v = -1 ∨ 0 ≤ v ∧ v ≤ most ∧ itoaB v = s) : v ≤ most := by unfold byteI at hm; omega
theorem e255 : byteI 255 := by constructor <;> decide
theorem e32 : byteI 32 := by constructor <;> decide
theorem num_empty (k : Nat) : ridgewayref02_Number.f (k + 20) ⟨#[]⟩ 255 = some (-1) := rfl
theorem addr_spec (k : Nat) (s : ByteArray) (hs : s.size ≤ 70) : ∃ a, ridgewayref02_Addr.f (k + 100) s = some a ∧ (a = -1 ∨ ∃ x y z u, byteI x ∧ byteI y ∧ byteI z ∧ byteI u ∧ a = ((x * 256 + y) * 256 + z) * 256 + u ∧ s.data.toList = Lib.join [Lib.itoa x, Lib.itoa y, Lib.itoa z, Lib.itoa u] [46]) := by
  have fin : ∀ p q r t : ByteArray, ∃ a, ridgewayref02_Addr.l0 (k + 100) [p, q, r, t] 0 0 = some a ∧ (a = -1 ∨ ∃ x y z u, byteI x ∧ byteI y ∧ byteI z ∧ byteI u ∧ a = ((x * 256 + y) * 256 + z) * 256 + u ∧ itoaB x = p ∧ itoaB y = q ∧ itoaB z = r ∧ itoaB u = t) := by
    intro p q r t
    obtain ⟨v0, h0, c0⟩ := rnum_spec (k + 79) p 255 e255
    obtain ⟨v1, h1, c1⟩ := rnum_spec (k + 78) q 255 e255
    obtain ⟨v2, h2, c2⟩ := rnum_spec (k + 77) r 255 e255
    obtain ⟨v3, h3, c3⟩ := rnum_spec (k + 76) t 255 e255
    have h := addr_loop (k + 75) p q r t v0 v1 v2 v3 h0 h1 h2 h3 (le_of_num e255 c0) (le_of_num e255 c1) (le_of_num e255 c2) (le_of_num e255 c3)
    refine ⟨_, h, ?_⟩
    by_cases c : v0 < 0 ∨ v1 < 0 ∨ v2 < 0 ∨ v3 < 0
    · rw [if_pos c]
      exact .inl rfl
    · rw [if_neg c]
      right
      rcases c0 with c0 | ⟨a0, b0, g0⟩
      · omega
      rcases c1 with c1 | ⟨a1, b1, g1⟩
      · omega
      rcases c2 with c2 | ⟨a2, b2, g2⟩
      · omega
      rcases c3 with c3 | ⟨a3, b3, g3⟩
      · omega
      exact ⟨v0, v1, v2, v3, ⟨a0, by omega⟩, ⟨a1, by omega⟩, ⟨a2, by omega⟩, ⟨a3, by omega⟩, rfl, g0, g1, g2, g3⟩
  have stop : ∀ p q r t : ByteArray, p = ⟨#[]⟩ ∨ q = ⟨#[]⟩ ∨ r = ⟨#[]⟩ → ridgewayref02_Addr.l0 (k + 100) [p, q, r, t] 0 0 = some (-1) := by
    intro p q r t h
    obtain ⟨a, ha, h2⟩ := fin p q r t
    rcases h2 with rfl | ⟨x, y, z, u, hx, hy, hz, hu, -, e1, e2, e3, -⟩
    · exact ha
    · exfalso
      have ne : ∀ v, byteI v → itoaB v ≠ ⟨#[]⟩ := by
        intro v hv e
        have := number_itoa hv
        rw [e] at this
        have h0 : prefix_number.f ⟨([] : List UInt8).toArray⟩ = some (0, false) := by decide +kernel
        rw [h0] at this
        cases this
      rcases h with rfl | rfl | rfl
      · exact ne _ hx e1
      · exact ne _ hy e2
      · exact ne _ hz e3
  unfold ridgewayref02_Addr.f
  have e46 : (46 : Int) = ((46 : UInt8).toNat : Int) := rfl
  rw [e46, show k + 100 = (k + 29) + 71 by omega]
  rcases part_spec (k + 29) s 46 hs with ⟨h1, -⟩ | ⟨A, T, hAT, -, hlen, h1⟩
  · rw [h1, Option.bind_some]
    dsimp only
    rw [h1, Option.bind_some]
    dsimp only
    rw [h1, Option.bind_some]
    exact ⟨-1, stop _ _ _ _ (.inl rfl), .inl rfl⟩
  · rw [h1, Option.bind_some]
    dsimp only
    rcases part_spec (k + 29) ⟨T.toArray⟩ 46 (by rw [mkSize]; omega) with ⟨h2, -⟩ | ⟨B, U, hBU, -, hlen2, h2⟩
    · rw [h2, Option.bind_some]
      dsimp only
      rw [h2, Option.bind_some]
      exact ⟨-1, stop _ _ _ _ (.inr (.inl rfl)), .inl rfl⟩
    · rw [h2, Option.bind_some]
      dsimp only
      rw [mkSize] at hlen2
      rcases part_spec (k + 29) ⟨U.toArray⟩ 46 (by rw [mkSize]; omega) with ⟨h3, -⟩ | ⟨C, D, hCD, -, hlen3, h3⟩
      · rw [h3, Option.bind_some]
        exact ⟨-1, stop _ _ _ _ (.inr (.inr rfl)), .inl rfl⟩
      · rw [h3, Option.bind_some]
        dsimp only
        obtain ⟨a, ha, h4⟩ := fin ⟨A.toArray⟩ ⟨B.toArray⟩ ⟨C.toArray⟩ ⟨D.toArray⟩
        refine ⟨a, ha, ?_⟩
        rcases h4 with h4 | ⟨x, y, z, u, hx, hy, hz, hu, e, e1, e2, e3, e4⟩
        · exact .inl h4
        · right
          refine ⟨x, y, z, u, hx, hy, hz, hu, e, ?_⟩
          have f1 : Lib.itoa x = A := congrArg (fun b : ByteArray => b.data.toList) e1
          have f2 : Lib.itoa y = B := congrArg (fun b : ByteArray => b.data.toList) e2
          have f3 : Lib.itoa z = C := congrArg (fun b : ByteArray => b.data.toList) e3
          have f4 : Lib.itoa u = D := congrArg (fun b : ByteArray => b.data.toList) e4
          have hBU' : T = B ++ 46 :: U := hBU
          have hCD' : U = C ++ 46 :: D := hCD
          rw [join4, f1, f2, f3, f4, hAT, hBU', hCD']
theorem addr_text (k : Nat) (x y z u : Int) (hx : byteI x) (hy : byteI y) (hz : byteI z) (hu : byteI u) : ridgewayref02_Addr.f (k + 100) ⟨(Lib.join [Lib.itoa x, Lib.itoa y, Lib.itoa z, Lib.itoa u] [46]).toArray⟩ = some (((x * 256 + y) * 256 + z) * 256 + u) := by
  have dx := dig_ok hx
  have dy := dig_ok hy
  have dz := dig_ok hz
  have du := dig_ok hu
  unfold ridgewayref02_Addr.f
  have e46 : (46 : Int) = ((46 : UInt8).toNat : Int) := rfl
  rw [join4, e46, show k + 100 = (k + 29) + 71 by omega]
  have z1 : (⟨(Lib.itoa x ++ 46 :: (Lib.itoa y ++ 46 :: (Lib.itoa z ++ 46 :: Lib.itoa u))).toArray⟩ : ByteArray).size ≤ 70 := by
    rw [mkSize]
    simp only [List.length_append, List.length_cons]
    omega
  have z2 : (⟨(Lib.itoa y ++ 46 :: (Lib.itoa z ++ 46 :: Lib.itoa u)).toArray⟩ : ByteArray).size ≤ 70 := by
    rw [mkSize]
    simp only [List.length_append, List.length_cons]
    omega
  have z3 : (⟨(Lib.itoa z ++ 46 :: Lib.itoa u).toArray⟩ : ByteArray).size ≤ 70 := by
    rw [mkSize]
    simp only [List.length_append, List.length_cons]
    omega
  rw [part_at (k + 29) _ 46 _ _ rfl (fun h => (dx.1 _ h).1 rfl) z1, Option.bind_some]
  dsimp only
  rw [part_at (k + 29) _ 46 _ _ rfl (fun h => (dy.1 _ h).1 rfl) z2, Option.bind_some]
  dsimp only
  rw [part_at (k + 29) _ 46 _ _ rfl (fun h => (dz.1 _ h).1 rfl) z3, Option.bind_some]
  dsimp only
  have h := addr_loop (k + 75) (itoaB x) (itoaB y) (itoaB z) (itoaB u) x y z u (rnum_255 (k + 79) hx) (rnum_255 (k + 78) hy) (rnum_255 (k + 77) hz) (rnum_255 (k + 76) hu) (by unfold byteI at hx; omega) (by unfold byteI at hy; omega) (by unfold byteI at hz; omega) (by unfold byteI at hu; omega)
  rw [if_neg (by unfold byteI at hx hy hz hu; omega)] at h
  exact h
/-! ### What is read -/
theorem rread_spec (k : Nat) (s : ByteArray) (hs : s.size ≤ 60) : ∃ a n ok, ridgewayref02_Read.f (k + 100) s = some (a, n, ok) ∧ (ok = true → saneP a n = true ∧ i64 a ∧ s = textP a n) ∧ (ok = false → a = 0 ∧ n = 0) := by
  unfold ridgewayref02_Read.f
  have e47 : (47 : Int) = ((47 : UInt8).toNat : Int) := rfl
  have no : ∀ (r : Option (Int × Int × Bool)), r = some (0, 0, false) → ∃ a n ok, r = some (a, n, ok) ∧ (ok = true → saneP a n = true ∧ i64 a ∧ s = textP a n) ∧ (ok = false → a = 0 ∧ n = 0) := by
    intro r h
    exact ⟨0, 0, false, h, fun h => (by cases h), fun _ => ⟨rfl, rfl⟩⟩
  have neg : ∀ v, saneP (-1) v = false := by
    intro v
    cases h : saneP (-1) v
    · rfl
    · exfalso
      have := sane_low h
      omega
  rw [e47, show k + 100 = (k + 29) + 71 by omega]
  rcases part_spec (k + 29) s 47 (by omega) with ⟨h1, hn⟩ | ⟨A, T, hAT, hn, hlen, h1⟩
  · rw [h1, Option.bind_some]
    dsimp only
    obtain ⟨v, hv, -⟩ := rnum_spec (k + 80) s 32 e32
    have ha : ridgewayref02_Addr.f (k + 100) ⟨#[]⟩ = some (-1) := by
      obtain ⟨a, ha, h2⟩ := addr_spec k ⟨#[]⟩ (by decide)
      rcases h2 with rfl | ⟨x, y, z, u, _, _, _, _, _, e⟩
      · exact ha
      · exfalso
        rw [join4] at e
        simp at e
    rw [show k + 29 + 71 = k + 100 by omega, ha, Option.bind_some, show k + 100 = k + 80 + 20 by omega, hv, Option.bind_some, show k + 80 + 20 = (k + 67) + 33 by omega, rsane_eq _ (-1) v ⟨by decide, by decide⟩, Option.bind_some, neg, if_neg (by decide)]
    exact no _ rfl
  · rw [h1, Option.bind_some]
    dsimp only
    obtain ⟨a, ha, h2⟩ := addr_spec k ⟨A.toArray⟩ (by rw [mkSize]; omega)
    obtain ⟨v, hv, h3⟩ := rnum_spec (k + 80) ⟨T.toArray⟩ 32 e32
    rw [show k + 29 + 71 = k + 100 by omega, ha, Option.bind_some, show k + 100 = k + 80 + 20 by omega, hv, Option.bind_some, show k + 80 + 20 = (k + 67) + 33 by omega]
    rcases h2 with rfl | ⟨x, y, z, u, hx, hy, hz, hu, e, hj⟩
    · rw [rsane_eq _ (-1) v ⟨by decide, by decide⟩, Option.bind_some, neg, if_neg (by decide)]
      exact no _ rfl
    · have hi : i64 a := by
        unfold byteI at hx hy hz hu
        constructor <;> omega
      rw [rsane_eq _ a v hi, Option.bind_some]
      by_cases hsn : saneP a v = true
      · rw [if_pos hsn]
        refine ⟨a, v, true, rfl, fun _ => ⟨hsn, hi, ?_⟩, fun h => (by cases h)⟩
        have h0 := ((saneP_iff a v).1 hsn).1
        rcases h3 with h3 | ⟨-, -, h3⟩
        · omega
        apply baExt
        show s.data.toList = textL a v
        unfold textL
        have hT : Lib.itoa v = T := congrArg (fun b : ByteArray => b.data.toList) h3
        have hA : A = Lib.join [Lib.itoa x, Lib.itoa y, Lib.itoa z, Lib.itoa u] [46] := hj
        rw [e, bytesP_of hx hy hz hu, hAT, hT, hA]
        rfl
      · rw [if_neg hsn]
        exact no _ rfl
theorem rread_text (k : Nat) (a n : Int) (hs : saneP a n = true) : ridgewayref02_Read.f (k + 100) (textP a n) = some (a, n, true) := by
  obtain ⟨h0, h1, -⟩ := (saneP_iff a n).1 hs
  have hlow := sane_low hs
  have hlt := lowN_lt a
  have hsz := textP_size (a := a) h0 h1
  have hb := bytesP_byte a
  obtain ⟨x, y, z, u, e⟩ := four_of (bytesP_len a)
  have hxa : ((x * 256 + y) * 256 + z) * 256 + u = a := by
    have e' : bytesP a = [a / 16777216 % 256, a / 65536 % 256, a / 256 % 256, a % 256] := rfl
    rw [e] at e'
    simp only [List.cons.injEq, and_true] at e'
    omega
  rw [e] at hb
  have hx := hb x (by simp)
  have hy := hb y (by simp)
  have hz := hb z (by simp)
  have hu := hb u (by simp)
  have dx := (dig_ok hx).1
  have dy := (dig_ok hy).1
  have dz := (dig_ok hz).1
  have du := (dig_ok hu).1
  obtain ⟨J, hJ⟩ : ∃ J, J = Lib.join [Lib.itoa x, Lib.itoa y, Lib.itoa z, Lib.itoa u] [46] := ⟨_, rfl⟩
  have hT : (textP a n).data.toList = J ++ 47 :: Lib.itoa n := by
    show textL a n = _
    unfold textL
    rw [e, hJ]
    rfl
  have n47 : (47 : UInt8) ∉ J := by
    rw [hJ, join4]
    simp only [List.mem_append, List.mem_cons, not_or]
    exact ⟨fun h => (dx _ h).2 rfl, by decide, fun h => (dy _ h).2 rfl, by decide, fun h => (dz _ h).2 rfl, by decide, fun h => (du _ h).2 rfl⟩
  have hi : i64 a := by constructor <;> omega
  unfold ridgewayref02_Read.f
  have e47 : (47 : Int) = ((47 : UInt8).toNat : Int) := rfl
  rw [e47, show k + 100 = (k + 29) + 71 by omega, part_at (k + 29) _ 47 J _ hT n47 (by omega), Option.bind_some]
  dsimp only
  have ha := addr_text k x y z u hx hy hz hu
  rw [← hJ, hxa] at ha
  rw [show k + 29 + 71 = k + 100 by omega, ha, Option.bind_some, show (⟨(Lib.itoa n).toArray⟩ : ByteArray) = itoaB n from rfl, show k + 100 = k + 80 + 20 by omega, rnum_32 _ h0 h1, Option.bind_some, show k + 80 + 20 = (k + 67) + 33 by omega, rsane_eq _ a n hi, Option.bind_some, if_pos hs]
/-- Both read the same. -/
theorem reads_same (k j : Nat) (s : ByteArray) (hs : s.size ≤ 60) : ridgewayref02_Read.f (k + 100) s = prefix_Read.f (j + 6) s := by
  obtain ⟨a, n, ok, h, h1, h2⟩ := read_spec j s (by omega)
  obtain ⟨b, m, ok', h', h1', h2'⟩ := rread_spec k s hs
  cases ok'
  · obtain ⟨rfl, rfl⟩ := h2' rfl
    cases ok
    · obtain ⟨rfl, rfl⟩ := h2 rfl
      rw [h, h']
    · obtain ⟨hsn, -, e⟩ := h1 rfl
      have := rread_text k a n hsn
      rw [← e, h'] at this
      cases this
  · obtain ⟨hsn, -, e⟩ := h1' rfl
    have := read_text j b m hsn
    rw [← e] at this
    rw [h', this]
end Go.Proofs.YtckjfplocmbcmaaDoor.Pure
