/- The lexer, over a list of characters; plain Lean. -/
import Derived.Test.YtmohglifmoecnaaDoorPPlax4
import Derived.Test.YtmohglifmoecnaaDoorPPlaxg
namespace Go.Proofs.YtmohglifmoecnaaDoor.Pure
open Go.RowKit Go.Proofs.YtmohglifmoecnaaDoor.PPla Go.Proofs.YtmohglifmoecnaaDoorW.PrintWords Go.Proofs.YtmohglifmoecnaaDoorW.PrintLast
set_option linter.unusedVariables false
/-- Is the first byte part of no character? -/
def Bad (l : List UInt8) : Prop := (decL l).1 = 65533 ∧ (decL l).2 = 1
instance (l : List UInt8) : Decidable (Bad l) := inferInstanceAs (Decidable (_ ∧ _))
/-- The characters; none: a byte that is part of none. -/
def charsN : Nat → List UInt8 → List (Option Nat)
  | 0, _ => []
  | k + 1, l => if l = [] then [] else (if Bad l then none else some (decL l).1) :: charsN k (l.drop (decL l).2)
def chars (l : List UInt8) : List (Option Nat) := charsN l.length l
theorem charsN_eq : ∀ (k j : Nat) (l : List UInt8), l.length ≤ k → l.length ≤ j → charsN k l = charsN j l
  | 0, 0, _, _, _ => rfl
  | 0, j + 1, l, h, _ => by
    obtain rfl : l = [] := List.length_eq_zero_iff.1 (by omega)
    rfl
  | k + 1, 0, l, _, h => by
    obtain rfl : l = [] := List.length_eq_zero_iff.1 (by omega)
    rfl
  | k + 1, j + 1, l, hk, hj => by
    unfold charsN
    by_cases h0 : l = []
    · rw [if_pos h0, if_pos h0]
    · have := dec_width l
      rw [if_neg h0, if_neg h0, charsN_eq k j _ (by rw [List.length_drop]; omega) (by rw [List.length_drop]; omega)]
theorem chars_nil : chars [] = [] := rfl
theorem chars_cons {l : List UInt8} (h : l ≠ []) : chars l = (if Bad l then none else some (decL l).1) :: chars (l.drop (decL l).2) := by
  have := List.length_pos_iff.2 h
  have hw := dec_width l
  unfold chars
  obtain ⟨k, hk⟩ : ∃ k, l.length = k + 1 := ⟨l.length - 1, by omega⟩
  rw [hk, charsN, if_neg h, charsN_eq k _ _ (by rw [List.length_drop]; omega) (Nat.le_refl _)]
theorem bad_ascii (b : UInt8) (t : List UInt8) (h : b.toNat < 128) : ¬ Bad (b :: t) := by
  unfold Bad
  rw [dec_ascii b t h]
  dsimp only
  omega
theorem chars_ascii (b : UInt8) (t : List UInt8) (h : b.toNat < 128) : chars (b :: t) = some b.toNat :: chars t := by
  rw [chars_cons (by simp), if_neg (bad_ascii b t h), dec_ascii b t h]
  rfl
theorem chars_app (c : UInt8) (t : List UInt8) (hc : c.toNat < 128) : ∀ (n : Nat) (l : List UInt8), l.length ≤ n → chars (l ++ c :: t) = chars l ++ chars (c :: t)
  | 0, l, h => by
    obtain rfl : l = [] := List.length_eq_zero_iff.1 (by omega)
    rfl
  | n + 1, l, h => by
    by_cases h0 : l = []
    · subst h0
      rfl
    · have hd := dec_app l c t h0 hc
      have hw := dec_width l
      have hr := dec_room l h0
      have hB : Bad (l ++ c :: t) = Bad l := by
        unfold Bad
        rw [hd]
      rw [chars_cons (l := l ++ c :: t) (by simp), chars_cons h0, hd, List.drop_append_of_le_length hr, chars_app c t hc n _ (by rw [List.length_drop]; omega), List.cons_append]
      congr 1
      simp only [hB]
/-- The characters, one behind the other. -/
def foldC : List (Option Nat) → LSt → Except Int LSt
  | [], st => .ok st
  | none :: _, st => .error st.at_
  | some r :: cs, st => match takeF st (r : Int) with
    | none => .error st.at_
    | some st' => foldC cs st'
theorem foldC_app (b : List (Option Nat)) : ∀ (a : List (Option Nat)) (st : LSt), foldC (a ++ b) st = match foldC a st with
    | .error e => .error e
    | .ok st' => foldC b st'
  | [], st => rfl
  | none :: _, st => rfl
  | some r :: cs, st => by
    rw [List.cons_append, foldC, foldC]
    cases takeF st (r : Int) with
    | none => rfl
    | some st' => exact foldC_app b cs st'
theorem size_list (s : ByteArray) : s.data.toList.length = s.size := by
  rw [Array.length_toList]
  rfl
theorem lexGo_chars (s : ByteArray) : ∀ (k pos : Nat) (st : LSt), s.size ≤ pos + k → lexGo s k pos st = foldC (chars (s.data.toList.drop pos)) st
  | 0, pos, st, h => by
    rw [List.drop_of_length_le (by rw [size_list]; omega)]
    rfl
  | k + 1, pos, st, h => by
    unfold lexGo
    by_cases hp : pos < s.size
    · have hne : s.data.toList.drop pos ≠ [] := by
        intro h0
        have := congrArg List.length h0
        rw [List.length_drop, size_list, List.length_nil] at this
        omega
      have hw := dec_width (s.data.toList.drop pos)
      rw [if_pos hp, chars_cons hne, dec_list, List.drop_drop]
      by_cases hb : Bad (s.data.toList.drop pos)
      · rw [if_pos hb, if_pos (c := _ ∧ _) hb]
        rfl
      · rw [if_neg hb, if_neg (c := _ ∧ _) hb, foldC]
        cases takeF st ((decL (s.data.toList.drop pos)).1 : Int) with
        | none => rfl
        | some st' => exact lexGo_chars s k _ st' (by omega)
    · rw [if_neg hp, List.drop_of_length_le (by rw [size_list]; omega)]
      rfl
/-- What is told of a text. -/
def told : Except Int LSt → List S32 × Int × Int
  | .error a => ([], a, 5)
  | .ok st => (st.out ++ [⟨2, st.at_, ⟨#[]⟩⟩], st.at_, 0)
theorem lexF_eq (s : ByteArray) (h : s.size ≤ 8000) : lexF s = told (foldC (chars s.data.toList) st0) := by
  unfold lexF
  rw [if_neg (by omega), lexGo_chars s s.size 0 st0 (by omega)]
  rw [List.drop_zero]
  cases foldC (chars s.data.toList) st0 <;> rfl
theorem foldC_ok : ∀ (cs : List (Option Nat)) (st st' : LSt), st.Ok → foldC cs st = .ok st' → st'.Ok ∧ st'.at_ = st.at_ + cs.length
  | [], st, st', hok, h => by
    cases h
    exact ⟨hok, by simp⟩
  | none :: _, st, st', hok, h => by cases h
  | some r :: cs, st, st', hok, h => by
    rw [foldC] at h
    cases ht : takeF st (r : Int) with
    | none =>
      rw [ht] at h
      cases h
    | some s1 =>
      rw [ht] at h
      have h1 := takeF_ok hok ht
      have h2 := foldC_ok cs s1 st' h1.1 h
      refine ⟨h2.1, ?_⟩
      rw [h2.2, h1.2, List.length_cons]
      omega
theorem foldC_err : ∀ (cs : List (Option Nat)) (st : LSt) (a : Int), st.Ok → foldC cs st = .error a → st.at_ ≤ a ∧ a < st.at_ + cs.length
  | [], st, st', hok, h => by cases h
  | none :: cs, st, st', hok, h => by
    cases h
    rw [List.length_cons]
    omega
  | some r :: cs, st, a, hok, h => by
    rw [foldC] at h
    cases ht : takeF st (r : Int) with
    | none =>
      rw [ht] at h
      cases h
      rw [List.length_cons]
      omega
    | some s1 =>
      rw [ht] at h
      have h1 := takeF_ok hok ht
      have h2 := foldC_err cs s1 a h1.1 h
      rw [h1.2] at h2
      rw [List.length_cons]
      omega
theorem chars_length : ∀ (n : Nat) (l : List UInt8), l.length ≤ n → (chars l).length ≤ l.length
  | 0, l, h => by
    obtain rfl : l = [] := List.length_eq_zero_iff.1 (by omega)
    exact Nat.le_refl _
  | n + 1, l, h => by
    by_cases h0 : l = []
    · subst h0
      exact Nat.le_refl _
    · have hw := dec_width l
      have hr := dec_room l h0
      have := chars_length n (l.drop (decL l).2) (by rw [List.length_drop]; omega)
      rw [List.length_drop] at this
      rw [chars_cons h0, List.length_cons]
      omega
theorem st0_ok : st0.Ok := ⟨by decide, by decide, (fun h => by cases h), by decide⟩
/-- awake is true. -/
theorem awake_true : ridgewaylaw11_awake.f = some true := by
  have e : lex_All.f (⟨#[97, 115, 32, 55, 32, 35, 32, 195, 169, 10]⟩ : ByteArray) = some ([⟨0, 0, ⟨#[97, 115]⟩⟩, ⟨0, 3, ⟨#[55]⟩⟩, ⟨1, 8, ⟨#[]⟩⟩, ⟨2, 9, ⟨#[]⟩⟩], 9, 0) := by kernel_rfl
  have e2 : lex_Show.f [⟨0, 0, ⟨#[97, 115]⟩⟩, ⟨0, 3, ⟨#[55]⟩⟩, ⟨1, 8, ⟨#[]⟩⟩, ⟨2, 9, ⟨#[]⟩⟩] = some ⟨#[97, 115, 32, 55, 10]⟩ := by kernel_rfl
  unfold ridgewaylaw11_awake.f
  rw [e]
  simp only [Option.bind_some]
  simp [rd_T32, e2]
end Go.Proofs.YtmohglifmoecnaaDoor.Pure
