/- Plain facts on notes: a number's digits are at most twenty, tell the number, and bear no '/'; so two notes' names are the same just if their numbers are; what the program tells of a note, as plain functions. No program is in here but its plain form. -/
import Derived.Test.YtjelhhmnpodlkaaDoorPAllx3
import Derived.Lib.Strings
namespace Go.Proofs.YtjelhhmnpodlkaaDoor.Pure
open Go.RowKit Go.Proofs.YtjelhhmnpodlkaaDoor.PAll Go.Proofs.YtjelhhmnpodlkaaDoorW.PrintWords Go.Proofs.YtjelhhmnpodlkaaDoorW.PrintLast
set_option linter.unusedVariables false
/-! ### digits -/
theorem nDigits_le : ∀ (k u : Nat), 1 ≤ k → u < 10 ^ k → Lib.nDigits u ≤ k
  | 0, u, h, _ => by omega
  | k + 1, u, _, hu => by
    by_cases h : u < 10
    · rw [Lib.nDigits_small h]; omega
    · rw [Lib.nDigits_big h]
      have hk : 1 ≤ k := by
        rcases Nat.eq_zero_or_pos k with e | e
        · subst e; simp at hu; omega
        · exact e
      have := nDigits_le k (u / 10) hk (by rw [Nat.pow_succ] at hu; omega)
      omega
theorem decDigits_step (u : Nat) (h : ¬ u < 10) : Lib.decDigits u = Lib.decDigits (u / 10) ++ [UInt8.ofNat (48 + u % 10)] := by
  rw [Lib.decDigits, dif_neg h]
theorem decDigits_small (u : Nat) (h : u < 10) : Lib.decDigits u = [UInt8.ofNat (48 + u)] := by rw [Lib.decDigits, dif_pos h]
theorem dig_nat (d : Nat) (h : d < 10) : (UInt8.ofNat (48 + d)).toNat = 48 + d := by simp; omega
theorem decDigits_range (u : Nat) : ∀ c ∈ Lib.decDigits u, 48 ≤ c.toNat ∧ c.toNat ≤ 57 := by
  induction u using Nat.strongRecOn with
  | _ u ih =>
    intro c hc
    by_cases h : u < 10
    · rw [decDigits_small u h, List.mem_singleton] at hc
      rw [hc, dig_nat u h]; omega
    · rw [decDigits_step u h, List.mem_append, List.mem_singleton] at hc
      rcases hc with hc | hc
      · exact ih (u / 10) (by omega) c hc
      · rw [hc, dig_nat _ (by omega)]; omega
def valD (l : List UInt8) : Nat := l.foldl (fun a c => a * 10 + (c.toNat - 48)) 0
theorem valD_dec (u : Nat) : valD (Lib.decDigits u) = u := by
  induction u using Nat.strongRecOn with
  | _ u ih =>
    by_cases h : u < 10
    · rw [decDigits_small u h]
      show 0 * 10 + ((UInt8.ofNat (48 + u)).toNat - 48) = u
      rw [dig_nat u h]; omega
    · rw [decDigits_step u h]
      unfold valD
      rw [List.foldl_append]
      show valD (Lib.decDigits (u / 10)) * 10 + ((UInt8.ofNat (48 + u % 10)).toNat - 48) = u
      rw [ih (u / 10) (by omega), dig_nat _ (by omega)]; omega
theorem decDigits_ne (u : Nat) : Lib.decDigits u ≠ [] := by
  intro h
  have := Lib.decDigits_length u
  have := Lib.nDigits_pos u
  rw [h] at *
  simp at *
  omega
theorem decDigits_inj {u v : Nat} (h : Lib.decDigits u = Lib.decDigits v) : u = v := by rw [← valD_dec u, ← valD_dec v, h]
theorem itoa_neg {n : Int} (h : n < 0) : Lib.itoa n = 45 :: Lib.decDigits n.natAbs := by unfold Lib.itoa; rw [if_pos h]
theorem itoa_nn {n : Int} (h : ¬ n < 0) : Lib.itoa n = Lib.decDigits n.toNat := by unfold Lib.itoa; rw [if_neg h]
theorem itoa_chars (n : Int) : ∀ c ∈ Lib.itoa n, c.toNat = 45 ∨ (48 ≤ c.toNat ∧ c.toNat ≤ 57) := by
  intro c hc
  by_cases h : n < 0
  · rw [itoa_neg h] at hc
    rcases List.mem_cons.1 hc with rfl | hc
    · exact .inl rfl
    · exact .inr (decDigits_range _ c hc)
  · rw [itoa_nn h] at hc
    exact .inr (decDigits_range _ c hc)
theorem itoa_inj {a b : Int} (h : Lib.itoa a = Lib.itoa b) : a = b := by
  by_cases ha : a < 0
  · by_cases hb : b < 0
    · rw [itoa_neg ha, itoa_neg hb, List.cons.injEq] at h
      have := decDigits_inj h.2
      omega
    · rw [itoa_neg ha, itoa_nn hb] at h
      have := decDigits_range b.toNat 45 (by rw [← h]; simp)
      simp at this
  · by_cases hb : b < 0
    · rw [itoa_nn ha, itoa_neg hb] at h
      have := decDigits_range a.toNat 45 (by rw [h]; simp)
      simp at this
    · rw [itoa_nn ha, itoa_nn hb] at h
      have := decDigits_inj h
      omega
theorem itoa_len {n : Int} (h : i64ok n = true) : (Lib.itoa n).length ≤ 20 := by
  obtain ⟨h0, h1⟩ := i64ok_iff h
  by_cases hn : n < 0
  · rw [itoa_neg hn, List.length_cons, Lib.decDigits_length]
    have := nDigits_le 19 n.natAbs (by omega) (by omega)
    omega
  · rw [itoa_nn hn, Lib.decDigits_length]
    have := nDigits_le 19 n.toNat (by omega) (by omega)
    omega
theorem size_itoaB (n : Int) : (itoaB n).size = (Lib.itoa n).length := by simp [itoaB, ByteArray.size]
theorem data_itoaB (n : Int) : (itoaB n).data.toList = Lib.itoa n := by simp [itoaB]
/-! ### names -/
def nameB (c s : Int) : ByteArray := (codeName c ++ (⟨#[47]⟩ : ByteArray)) ++ itoaB s
theorem codeName_size {c : Int} (h : i64ok c = true) : (codeName c).size ≤ 20 := by
  unfold codeName
  split
  · rename_i hc
    obtain ⟨n, rfl⟩ := Int.eq_ofNat_of_zero_le (show 0 ≤ c by omega)
    have : n = 1 ∨ n = 2 ∨ n = 3 ∨ n = 4 ∨ n = 5 ∨ n = 6 := by omega
    rcases this with rfl | rfl | rfl | rfl | rfl | rfl <;> decide
  · rw [size_itoaB]; exact itoa_len h
theorem itoa_f {n : Int} (h : i64ok n = true) : strconv_Itoa.f n = some (itoaB n) := by unfold strconv_Itoa.f; rw [if_pos h]
theorem name_f (c s : Int) (l : List Int) (hc : i64ok c = true) (hs : i64ok s = true) : note_Name.f c s l = some (nameB c s) := by
  unfold note_Name.f
  rw [itoa_f hc, itoa_f hs]
  simp only [Option.bind_some]
  have h1 := codeName_size hc
  have h2 := itoa_len hs
  have h3 := size_itoaB s
  have h4 : (codeName c ++ (⟨#[47]⟩ : ByteArray)).size = (codeName c).size + 1 := by rw [ByteArray.size_append]; rfl
  rw [if_pos (by omega), if_pos (by omega)]
  rfl
theorem name_data (c s : Int) : (nameB c s).data.toList = (codeName c).data.toList ++ 47 :: Lib.itoa s := by
  unfold nameB
  simp [ByteArray.data_append, data_itoaB]
theorem split_at {x x' y y' : List UInt8} (hx : ∀ c ∈ x, c ≠ 47) (hx' : ∀ c ∈ x', c ≠ 47) (h : x ++ 47 :: y = x' ++ 47 :: y') : x = x' ∧ y = y' := by
  induction x generalizing x' with
  | nil =>
    cases x' with
    | nil => simpa using h
    | cons c t =>
      simp only [List.nil_append, List.cons_append, List.cons.injEq] at h
      exact absurd h.1.symm (hx' c (by simp))
  | cons a x ih =>
    cases x' with
    | nil =>
      simp only [List.nil_append, List.cons_append, List.cons.injEq] at h
      exact absurd h.1 (hx a (by simp))
    | cons c t =>
      simp only [List.cons_append, List.cons.injEq] at h
      obtain ⟨e1, e2⟩ := ih (fun c hc => hx c (by simp [hc])) (fun c hc => hx' c (by simp [hc])) h.2
      exact ⟨by rw [h.1, e1], e2⟩
theorem codeName_chars (c : Int) : ∀ x ∈ (codeName c).data.toList, x ≠ 47 := by
  unfold codeName
  split
  · rename_i hc
    obtain ⟨n, rfl⟩ := Int.eq_ofNat_of_zero_le (show 0 ≤ c by omega)
    have : n = 1 ∨ n = 2 ∨ n = 3 ∨ n = 4 ∨ n = 5 ∨ n = 6 := by omega
    rcases this with rfl | rfl | rfl | rfl | rfl | rfl <;> decide
  · intro x hx e
    rw [data_itoaB] at hx
    have := itoa_chars c x hx
    rw [e] at this
    simp at this
theorem codeName_head {c : Int} (hc : 1 ≤ c ∧ c ≤ 6) : ∃ a t, (codeName c).data.toList = a :: t ∧ 97 ≤ a.toNat := by
  unfold codeName
  rw [if_pos hc]
  obtain ⟨n, rfl⟩ := Int.eq_ofNat_of_zero_le (show 0 ≤ c by omega)
  have : n = 1 ∨ n = 2 ∨ n = 3 ∨ n = 4 ∨ n = 5 ∨ n = 6 := by omega
  rcases this with rfl | rfl | rfl | rfl | rfl | rfl <;> exact ⟨_, _, rfl, by decide⟩
theorem codeName_num {c : Int} (hc : ¬ (1 ≤ c ∧ c ≤ 6)) : (codeName c).data.toList = Lib.itoa c := by unfold codeName; rw [if_neg hc, data_itoaB]
theorem codeName_inj {a b : Int} (h : (codeName a).data.toList = (codeName b).data.toList) : a = b := by
  by_cases ha : 1 ≤ a ∧ a ≤ 6
  · by_cases hb : 1 ≤ b ∧ b ≤ 6
    · unfold codeName at h
      rw [if_pos ha, if_pos hb] at h
      obtain ⟨n, rfl⟩ := Int.eq_ofNat_of_zero_le (show 0 ≤ a by omega)
      obtain ⟨m, rfl⟩ := Int.eq_ofNat_of_zero_le (show 0 ≤ b by omega)
      have h1 : n = 1 ∨ n = 2 ∨ n = 3 ∨ n = 4 ∨ n = 5 ∨ n = 6 := by omega
      have h2 : m = 1 ∨ m = 2 ∨ m = 3 ∨ m = 4 ∨ m = 5 ∨ m = 6 := by omega
      rcases h1 with rfl | rfl | rfl | rfl | rfl | rfl <;> rcases h2 with rfl | rfl | rfl | rfl | rfl | rfl <;> first | rfl | (exact absurd h (by decide))
    · obtain ⟨x, t, e, hx⟩ := codeName_head ha
      rw [e, codeName_num hb] at h
      have := itoa_chars b x (by rw [← h]; simp)
      omega
  · by_cases hb : 1 ≤ b ∧ b ≤ 6
    · obtain ⟨x, t, e, hx⟩ := codeName_head hb
      rw [e, codeName_num ha] at h
      have := itoa_chars a x (by rw [h]; simp)
      omega
    · rw [codeName_num ha, codeName_num hb] at h
      exact itoa_inj h
theorem name_inj {c s c' s' : Int} (h : (nameB c s).data.toList = (nameB c' s').data.toList) : c = c' ∧ s = s' := by
  rw [name_data, name_data] at h
  obtain ⟨h1, h2⟩ := split_at (codeName_chars c) (codeName_chars c') h
  exact ⟨codeName_inj h1, itoa_inj h2⟩
/-! ### put and got -/
def saneB (c s : Int) (l : List Int) : Bool := decide (1 ≤ c ∧ c ≤ 255 ∧ 0 ≤ s ∧ s ≤ 255 ∧ l.length ≤ 4075)
theorem sane_f (c s : Int) (l : List Int) : note_Sane.f c s l = some (saneB c s l) := by
  unfold note_Sane.f saneB
  by_cases h1 : 1 ≤ c <;> by_cases h2 : c ≤ 255 <;> by_cases h3 : 0 ≤ s <;> by_cases h4 : s ≤ 255 <;> simp [h1, h2, h3, h4] <;> omega
theorem concat_f (a b : List Int) (h : a.length + b.length < 140737488355328) : slices_Concat_byte_byte.f [a, b] = some (a ++ b) := by
  unfold slices_Concat_byte_byte.f totL
  rw [if_pos (by simpa using h)]
  simp
def putB (c s : Int) (l : List Int) : Int × List Int := if saneB c s l = true then (3, c % 256 :: s % 256 :: l) else (0, [])
theorem put_f (c s : Int) (l : List Int) : note_Put.f c s l = some (putB c s l) := by
  unfold note_Put.f putB
  rw [sane_f]
  simp only [Option.bind_some]
  by_cases h : saneB c s l = true
  · rw [if_pos h, if_pos h, concat_f _ _ (by unfold saneB at h; have := of_decide_eq_true h; simp only [List.length_cons, List.length_nil]; omega)]
    rfl
  · rw [if_neg h, if_neg h]
theorem clone_f (l : List Int) (h : l.length < 140737488355328) : slices_Clone_byte_byte.f l = some l := by unfold slices_Clone_byte_byte.f; rw [if_pos h]
def getB (m : Int) (l : List Int) : Int × Int × List Int × Bool :=
  if m = 3 ∧ 2 ≤ l.length ∧ saneB (wrap64 (rd l 0)) (wrap64 (rd l 1)) (l.drop 2) = true then (wrap64 (rd l 0), wrap64 (rd l 1), l.drop 2, true) else (0, 0, [], false)
theorem get_f (k : Nat) (m : Int) (l : List Int) (hl : l.length ≤ 140737488351232) : note_Get.f (k + 1) m l = some (getB m l) := by
  unfold note_Get.f getB
  by_cases h : m = 3
  · rw [if_pos h]
    simp only [note_Get.j0]
    by_cases h2 : 2 ≤ l.length
    · rw [if_neg (by simp; omega), if_pos (by omega), if_pos (by omega), if_pos (by omega), clone_f _ (by simp; omega)]
      simp only [Option.bind_some, sane_f]
      by_cases h3 : saneB (wrap64 (rd l 0)) (wrap64 (rd l 1)) (l.drop 2) = true
      · rw [if_pos h3, if_pos ⟨h, h2, h3⟩]
      · rw [if_neg h3, if_neg (fun e => h3 e.2.2)]
    · rw [if_pos (by simp; omega), if_neg (fun e => h2 e.2.1)]
  · rw [if_neg h]
    simp only [note_Get.j0]
    rw [if_pos trivial, if_neg (fun e => h e.1)]
theorem known_f (c s : Int) : note_Known.f c s = some (knownB c s) := rfl
theorem awake_f (k : Nat) : ridgewaylaw05_awake.f (k + 1) = some true := by
  unfold ridgewaylaw05_awake.f
  have hp : putB 2 11 [] = (3, [2, 11]) := by decide
  rw [put_f, hp]
  simp only [Option.bind_some]
  have hg : getB 3 [2, 11] = (2, 11, [], true) := by decide +kernel
  rw [get_f _ _ _ (by decide), hg]
  simp only [Option.bind_some]
  rw [if_pos trivial, if_pos trivial, if_pos trivial, name_f 2 11 [] (by decide) (by decide)]
  simp only [Option.bind_some]
  have hn : (nameB 2 11).toList = [111, 112, 101, 110, 47, 49, 49] := by
    rw [Lib.toList_data, name_data, itoa_nn (by decide), show (11 : Int).toNat = 11 from rfl, Lib.decDigits_two (by decide) (by decide)]
    rfl
  rw [if_pos hn, known_f, known_f, sane_f]
  simp only [Option.bind_some]
  have k1 : knownB 2 11 = true := by decide
  have k2 : knownB 2 5 = false := by decide
  have k3 : saneB 2 11 [] = true := by decide
  rw [k1, k2, k3, if_pos rfl, if_neg (by simp)]
end Go.Proofs.YtjelhhmnpodlkaaDoor.Pure
