/- The first character of some bytes, as a function of the list of bytes; plain Lean. -/
import Derived.Lib.DecodeN
namespace Go.Proofs.YtmohglifmoecnaaDoor.Pure
open Go
set_option linter.unusedVariables false
def byteN (l : List UInt8) (i : Nat) : Nat := (l.getD i 0).toNat
/-- The first character and its width. -/
def decL (l : List UInt8) : Nat × Nat := Lib.decodeN l.length (byteN l 0) (byteN l 1) (byteN l 2) (byteN l 3)
theorem get_list (s : ByteArray) (i : Nat) : (s.get! i).toNat = byteN s.data.toList i := by
  unfold byteN
  rw [List.getD_eq_getElem?_getD, Array.getElem?_toList]
  obtain ⟨a⟩ := s
  show (a[i]!).toNat = _
  rw [getElem!_def]
  cases h : a[i]? with
  | none => rfl
  | some v => rfl
theorem byteN_drop (l : List UInt8) (i j : Nat) : byteN (l.drop i) j = byteN l (i + j) := by
  unfold byteN
  rw [List.getD_eq_getElem?_getD, List.getD_eq_getElem?_getD, List.getElem?_drop]
theorem dec_list (s : ByteArray) (i : Nat) : Utf8.decode s i = decL (s.data.toList.drop i) := by
  have hs : s.size = s.data.toList.length := by rw [Array.length_toList]; rfl
  unfold decL
  rw [Lib.decode_at, byteN_drop, byteN_drop, byteN_drop, byteN_drop, List.length_drop, get_list, get_list, get_list, get_list, hs]
  rfl
theorem byteN_lt (l : List UInt8) (i : Nat) : byteN l i < 256 := UInt8.toNat_lt _
theorem dec_cases (n b0 b1 b2 b3 : Nat) : (b0 < 128 ∧ Lib.decodeN n b0 b1 b2 b3 = (b0, 1)) ∨ (128 ≤ b0 ∧ Lib.decodeN n b0 b1 b2 b3 = (65533, 1)) ∨
    (128 ≤ b0 ∧ 2 ≤ n ∧ 128 ≤ (Lib.decodeN n b0 b1 b2 b3).1 ∧ (Lib.decodeN n b0 b1 b2 b3).2 = 2 ∧ b1 / 64 = 2) ∨
    (128 ≤ b0 ∧ 3 ≤ n ∧ 128 ≤ (Lib.decodeN n b0 b1 b2 b3).1 ∧ (Lib.decodeN n b0 b1 b2 b3).2 = 3 ∧ b1 / 64 = 2 ∧ b2 / 64 = 2) ∨
    (128 ≤ b0 ∧ 4 ≤ n ∧ 128 ≤ (Lib.decodeN n b0 b1 b2 b3).1 ∧ (Lib.decodeN n b0 b1 b2 b3).2 = 4 ∧ b1 / 64 = 2 ∧ b2 / 64 = 2 ∧ b3 / 64 = 2) := by
  by_cases h : b0 < 128
  · exact .inl ⟨h, by unfold Lib.decodeN; rw [if_pos h]⟩
  · have h' : 128 ≤ b0 := by omega
    unfold Lib.decodeN
    rw [if_neg h]
    repeat' split
    all_goals first
      | exact .inr (.inl ⟨h', rfl⟩)
      | exact .inr (.inr (.inl ⟨h', by omega, by dsimp only; omega, rfl, by omega⟩))
      | exact .inr (.inr (.inr (.inl ⟨h', by omega, by dsimp only; omega, rfl, by omega, by omega⟩)))
      | exact .inr (.inr (.inr (.inr ⟨h', by omega, by dsimp only; omega, rfl, by omega, by omega, by omega⟩)))
theorem dec_width (l : List UInt8) : 1 ≤ (decL l).2 := by
  unfold decL
  rcases dec_cases l.length (byteN l 0) (byteN l 1) (byteN l 2) (byteN l 3) with ⟨-, h⟩ | ⟨-, h⟩ | ⟨-, -, -, h, -⟩ | ⟨-, -, -, h, -⟩ | ⟨-, -, -, h, -⟩ <;> rw [h] <;> simp
theorem dec_room (l : List UInt8) (h0 : l ≠ []) : (decL l).2 ≤ l.length := by
  have := List.length_pos_iff.2 h0
  unfold decL
  rcases dec_cases l.length (byteN l 0) (byteN l 1) (byteN l 2) (byteN l 3) with ⟨-, h⟩ | ⟨-, h⟩ | ⟨-, h2, -, h, -⟩ | ⟨-, h2, -, h, -⟩ | ⟨-, h2, -, h, -⟩ <;> rw [h] <;> first | omega | (dsimp only; omega)
theorem dec_ascii (b : UInt8) (t : List UInt8) (h : b.toNat < 128) : decL (b :: t) = (b.toNat, 1) := by
  unfold decL Lib.decodeN
  rw [show byteN (b :: t) 0 = b.toNat from rfl, if_pos h]
/-- Of a byte that is no character of its own: a character above, or none. -/
theorem dec_high (b : UInt8) (t : List UInt8) (h : 128 ≤ b.toNat) : 128 ≤ (decL (b :: t)).1 := by
  unfold decL
  have e : byteN (b :: t) 0 = b.toNat := rfl
  rcases dec_cases (b :: t).length (byteN (b :: t) 0) (byteN (b :: t) 1) (byteN (b :: t) 2) (byteN (b :: t) 3) with ⟨h1, -⟩ | ⟨-, h1⟩ | ⟨-, -, h1, -⟩ | ⟨-, -, h1, -⟩ | ⟨-, -, h1, -⟩
  · omega
  · rw [h1]
    decide
  · exact h1
  · exact h1
  · exact h1
/-- A byte from 248 on begins no character. -/
theorem dec_none (b : UInt8) (t : List UInt8) (h : 248 ≤ b.toNat) : decL (b :: t) = (65533, 1) := by
  have hb := UInt8.toNat_lt b
  unfold decL Lib.decodeN
  rw [show byteN (b :: t) 0 = b.toNat from rfl, if_neg (by omega), if_neg (by omega), if_neg (by omega), if_neg (by omega)]
/-- What stands behind a byte below 128 does not matter. -/
theorem dec_app (l : List UInt8) (c : UInt8) (t : List UInt8) (h0 : l ≠ []) (hc : c.toNat < 128) : decL (l ++ c :: t) = decL l := by
  have hc2 : c.toNat / 64 ≠ 2 := by omega
  have at_ : ∀ i, i < l.length → byteN (l ++ c :: t) i = byteN l i := by
    intro i hi
    unfold byteN
    rw [List.getD_eq_getElem?_getD, List.getD_eq_getElem?_getD, List.getElem?_append_left hi]
  have eq_ : byteN (l ++ c :: t) l.length = c.toNat := by
    unfold byteN
    rw [List.getD_eq_getElem?_getD, List.getElem?_append_right (Nat.le_refl _)]
    simp
  have hlen : l.length < (l ++ c :: t).length := by simp
  have hp := List.length_pos_iff.2 h0
  unfold decL
  obtain ⟨n, hn⟩ : ∃ n, n = (l ++ c :: t).length := ⟨_, rfl⟩
  rw [← hn] at hlen ⊢
  rw [at_ 0 hp]
  have e4 : l.length = 1 ∨ l.length = 2 ∨ l.length = 3 ∨ 4 ≤ l.length := by omega
  rcases e4 with e | e | e | e
  · have h1 : byteN (l ++ c :: t) 1 = c.toNat := by rw [← eq_, e]
    rw [h1, e]
    unfold Lib.decodeN
    simp only [hc2, and_false, false_and, if_false, Nat.lt_irrefl]
  · have h1 : byteN (l ++ c :: t) 1 = byteN l 1 := at_ 1 (by omega)
    have h2 : byteN (l ++ c :: t) 2 = c.toNat := by rw [← eq_, e]
    have n1 : (1 < n) = True := eq_true (by omega)
    have n2 : (1 < 2) = True := eq_true (by decide)
    rw [h1, h2, e]
    unfold Lib.decodeN
    simp only [hc2, n1, n2, and_false, false_and, if_false, Nat.lt_irrefl, true_and]
  · have h1 : byteN (l ++ c :: t) 1 = byteN l 1 := at_ 1 (by omega)
    have h2 : byteN (l ++ c :: t) 2 = byteN l 2 := at_ 2 (by omega)
    have h3 : byteN (l ++ c :: t) 3 = c.toNat := by rw [← eq_, e]
    have n1 : (1 < n) = True := eq_true (by omega)
    have n2 : (2 < n) = True := eq_true (by omega)
    have m1 : (1 < 3) = True := eq_true (by decide)
    have m2 : (2 < 3) = True := eq_true (by decide)
    rw [h1, h2, h3, e]
    unfold Lib.decodeN
    simp only [hc2, n1, n2, m1, m2, and_false, false_and, if_false, Nat.lt_irrefl, true_and]
  · have h1 : byteN (l ++ c :: t) 1 = byteN l 1 := at_ 1 (by omega)
    have h2 : byteN (l ++ c :: t) 2 = byteN l 2 := at_ 2 (by omega)
    have h3 : byteN (l ++ c :: t) 3 = byteN l 3 := at_ 3 (by omega)
    have n1 : (1 < n) = True := eq_true (by omega)
    have n2 : (2 < n) = True := eq_true (by omega)
    have n3 : (3 < n) = True := eq_true (by omega)
    have m1 : (1 < l.length) = True := eq_true (by omega)
    have m2 : (2 < l.length) = True := eq_true (by omega)
    have m3 : (3 < l.length) = True := eq_true (by omega)
    rw [h1, h2, h3]
    unfold Lib.decodeN
    simp only [n1, n2, n3, m1, m2, m3, true_and]
end Go.Proofs.YtmohglifmoecnaaDoor.Pure
