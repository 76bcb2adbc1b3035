import Derived.Test.YtmohglifmoecnaaDoorPdLexIs
import Derived.Test.YtmohglifmoecnaaDoorPureLex
namespace Go.Proofs.YtmohglifmoecnaaDoor.Pure
open Go.RowKit Go.Proofs.YtmohglifmoecnaaDoor.PAll Go.Proofs.YtmohglifmoecnaaDoorW.PrintWords Go.Proofs.YtmohglifmoecnaaDoorW.PrintLast
set_option linter.unusedVariables false
theorem rl_eq (c : Int) : ridgewayref11_letter.f c = some (letterR c) := by
  unfold ridgewayref11_letter.f letterR
  by_cases a : c ≥ 97
  · rw [if_pos a]
    by_cases b : c ≤ 122
    · rw [if_pos b, decide_eq_true (by omega)]
    · rw [if_neg b, if_pos (by omega), if_neg (by omega), if_neg (by omega), if_neg (by omega), decide_eq_false (by omega)]
      simp
      omega
  · rw [if_neg a]
    by_cases b : c ≥ 48
    · rw [if_pos b]
      by_cases d : c ≤ 57
      · rw [if_pos d, decide_eq_true (by omega)]
      · rw [if_neg d, if_neg (by omega), if_neg (by omega), decide_eq_false (by omega)]
        simp
        omega
    · rw [if_neg b]
      by_cases d : c = 46
      · rw [if_pos d, decide_eq_true (by omega)]
      · rw [if_neg d]
        by_cases e : c = 47
        · rw [if_pos e, decide_eq_true (by omega)]
        · rw [if_neg e]
          congr 1
          by_cases f : c = 45
          · rw [decide_eq_true (by omega), f]
            rfl
          · rw [decide_eq_false (by omega), beq_eq_false_iff_ne]
            exact f
theorem letter_range {r : Int} (h : letterR r = true) : 45 ≤ r ∧ r ≤ 122 := by
  unfold letterR at h
  rw [decide_eq_true_iff] at h
  omega
theorem letter_enc {r : Int} (h : letterR r = true) : Utf8.encode r = ⟨#[UInt8.ofNat r.toNat]⟩ := by
  have := letter_range h
  have hv : Utf8.valid r = true := by
    unfold Utf8.valid
    simp
    omega
  unfold Utf8.encode
  dsimp only
  rw [if_pos hv, if_pos (by omega)]
theorem addLast_app (pre : List S32) (t : S32) (s : ByteArray) : addLast (pre ++ [t]) s = pre ++ [⟨t.f0, t.f1, t.f2 ++ s⟩] := by
  unfold addLast
  have : (pre ++ [t]).length - 1 = pre.length := by simp
  rw [this]
  simp [List.getD_eq_getElem?_getD]
theorem empty_app (s : ByteArray) : (⟨#[]⟩ : ByteArray) ++ s = s := by
  apply ByteArray.ext
  simp
theorem ext_list {s t : ByteArray} (h : s.data.toList = t.data.toList) : s = t := by
  cases s
  cases t
  rw [Array.toList_inj] at h
  dsimp only at h
  rw [h]
theorem tail_list (s : ByteArray) (d : Nat) (h : d ≤ s.size) : (s.extract d s.size).data.toList = s.data.toList.drop d := by
  rw [ByteArray.data_extract, Array.toList_extract, List.extract_eq_take_drop, List.take_of_length_le]
  rw [List.length_drop, size_list]
  omega
theorem head_list (s : ByteArray) (d : Nat) (h : d ≤ s.size) : (s.extract 0 d).data.toList = s.data.toList.take d := by
  rw [ByteArray.data_extract, Array.toList_extract, List.extract_eq_take_drop]
  simp
theorem bt_head {s : ByteArray} {b : UInt8} {t : List UInt8} (h : s.data.toList = b :: t) : bt s 0 = (b.toNat : Int) := by
  obtain ⟨⟨l⟩⟩ := s
  dsimp only at h
  subst h
  rfl
/-- The first character: what it can be. -/
theorem dec_three (b : UInt8) (t : List UInt8) : (b.toNat < 128 ∧ decL (b :: t) = (b.toNat, 1)) ∨ (128 ≤ b.toNat ∧ decL (b :: t) = (65533, 1)) ∨ (128 ≤ b.toNat ∧ 128 ≤ (decL (b :: t)).1 ∧ 2 ≤ (decL (b :: t)).2) := by
  have e : byteN (b :: t) 0 = b.toNat := rfl
  unfold decL
  rcases dec_cases (b :: t).length (byteN (b :: t) 0) (byteN (b :: t) 1) (byteN (b :: t) 2) (byteN (b :: t) 3) with ⟨h0, h1⟩ | ⟨h0, h1⟩ | ⟨h0, -, h1, h2, -⟩ | ⟨h0, -, h1, h2, -⟩ | ⟨h0, -, h1, h2, -⟩
  · exact .inl ⟨by omega, by rw [h1, e]⟩
  · exact .inr (.inl ⟨by omega, h1⟩)
  · exact .inr (.inr ⟨by omega, h1, by omega⟩)
  · exact .inr (.inr ⟨by omega, h1, by omega⟩)
  · exact .inr (.inr ⟨by omega, h1, by omega⟩)
theorem char_width {s : ByteArray} (h0 : 0 < s.size) : charI s = if Bad s.data.toList then 0 else ((decL s.data.toList).2 : Int) := by
  have hne : s.data.toList ≠ [] := by
    intro h
    have := size_list s
    rw [h, List.length_nil] at this
    omega
  have hroom := dec_room _ hne
  have hw := dec_width s.data.toList
  rw [size_list] at hroom
  have hw_ : ∀ x : ByteArray, x.size = (decL s.data.toList).2 → (x.size = 1 → ((Utf8.decode x 0).1 = 65533 ↔ Bad s.data.toList)) → wholeI x = if Bad s.data.toList then 0 else ((decL s.data.toList).2 : Int) := by
    intro x hx h1
    unfold wholeI
    rw [if_neg (by omega)]
    by_cases hB : Bad s.data.toList
    · have hx1 : x.size = 1 := by rw [hx, hB.2]
      rw [if_pos ⟨(h1 hx1).2 hB, hx1⟩, if_pos hB]
    · rw [if_neg (fun h => hB ((h1 h.2).1 h.1)), if_neg hB, hx]
  unfold charI
  rw [if_neg (by omega), dec_list, List.drop_zero]
  split
  · rename_i hlt
    have hl := head_list s _ hroom
    refine hw_ _ ?_ ?_
    · rw [← size_list, hl, List.length_take, size_list]
      omega
    · intro h1
      rw [dec_list, List.drop_zero, hl]
      rw [← size_list, hl, List.length_take, size_list] at h1
      have hd1 : (decL s.data.toList).2 = 1 := by omega
      rw [hd1]
      obtain ⟨b, t, hbt⟩ : ∃ b t, s.data.toList = b :: t := by
        cases hx : s.data.toList with
        | nil => exact absurd hx hne
        | cons b t => exact ⟨b, t, rfl⟩
      unfold Bad
      rw [hbt] at hd1 ⊢
      rw [List.take_succ_cons, List.take_zero]
      rcases dec_three b t with ⟨hb, hd⟩ | ⟨hb, hd⟩ | ⟨hb, hd, hd2⟩
      · rw [hd, dec_ascii b [] hb]
        simp
      · rw [hd]
        rcases dec_three b [] with ⟨hb', _⟩ | ⟨_, hd'⟩ | ⟨_, _, hd2⟩
        · omega
        · rw [hd']
          simp
        · have := dec_room [b] (by simp)
          rw [List.length_singleton] at this
          omega
      · omega
  · rename_i hlt
    refine hw_ _ (by omega) ?_
    intro h1
    rw [dec_list, List.drop_zero]
    exact ⟨fun h => ⟨h, by omega⟩, fun h => h.1⟩
/-- The reference's loop. -/
theorem ref_loop : ∀ (n : Nat) (s : ByteArray) (st : LSt) (k : Nat), s.size ≤ n → st.Ok → st.at_ + n ≤ 10000 → 3 * n + 1 ≤ k →
    ridgewayref11_All.l0 k s st.out st.at_ st.comm st.word = some (told (foldC (chars s.data.toList) st)) := by
  intro n
  induction n with
  | zero =>
    intro s st k hs hok hat hk
    obtain ⟨k, rfl⟩ : ∃ j, k = j + 1 := ⟨k - 1, by omega⟩
    have hnil : s.data.toList = [] := List.length_eq_zero_iff.1 (by rw [size_list]; omega)
    have hlen := hok.len
    rw [ridgewayref11_All.l0, if_neg (by omega), if_pos (by omega), hnil]
    rfl
  | succ n ih =>
    intro s st k hs hok hat hk
    obtain ⟨k, rfl⟩ : ∃ j, k = j + 3 := ⟨k - 3, by omega⟩
    have hlen := hok.len
    have h0 := hok.a0
    by_cases hs0 : 0 < s.size
    · obtain ⟨b, t, hbt⟩ : ∃ b t, s.data.toList = b :: t := by
        cases hx : s.data.toList with
        | nil =>
          have := size_list s
          rw [hx, List.length_nil] at this
          omega
        | cons b t => exact ⟨b, t, rfl⟩
      have hsz : s.size = t.length + 1 := by rw [← size_list, hbt, List.length_cons]
      have hc := char_width hs0
      have hbt0 := bt_head hbt
      have hroom := dec_room (b :: t) (by simp)
      rw [← hbt, size_list] at hroom
      have hb256 := UInt8.toNat_lt b
      have hw1 : wrap64 (st.at_ + 1) = st.at_ + 1 := by unfold wrap64; omega
      -- what the loop does with the rest
      have next : ∀ (d : Nat) (st' : LSt) (j : Nat), 1 ≤ d → d ≤ s.size → st'.Ok → st'.at_ = st.at_ + 1 → k ≤ j →
          ridgewayref11_All.l0 j (s.extract ((d : Int)).toNat s.size) st'.out st'.at_ st'.comm st'.word = some (told (foldC (chars (s.data.toList.drop d)) st')) := by
        intro d st' j hd hd2 hok' hat' hj
        have htl := tail_list s d hd2
        rw [Int.toNat_natCast, ih _ st' j (by rw [← size_list, htl, List.length_drop, size_list]; omega) hok' (by omega) (by omega), htl]
      rw [ridgewayref11_All.l0, if_pos (by omega)]
      unfold ridgewayref11_char.f
      rw [Option.bind_some, if_pos (by omega), hc, hbt0]
      rcases dec_three b t with ⟨hb, hd⟩ | ⟨hb, hd⟩ | ⟨hb, hr, hd2⟩
      · -- a byte that is a character
        have hnb : ¬ Bad s.data.toList := by rw [hbt]; exact bad_ascii b t hb
        have hd1 : decL s.data.toList = (b.toNat, 1) := by rw [hbt, hd]
        have hch : chars s.data.toList = some b.toNat :: chars (s.data.toList.drop 1) := by
          rw [hbt, chars_ascii b t hb]
          rfl
        have hex : s.extract 0 1 = ⟨#[UInt8.ofNat ((b.toNat : Int)).toNat]⟩ := by
          apply ext_list
          rw [head_list s 1 hs0, hbt]
          simp
        rw [if_neg hnb, hd1, hch, foldC]
        dsimp only
        rw [if_neg (by decide), if_neg (by decide), if_pos (by decide)]
        obtain ⟨out, at_, word, comm⟩ := st
        dsimp only at hlen h0 hw1 next hok hat ⊢
        -- the byte has a meaning
        have good : ∀ st' : LSt, takeF ⟨out, at_, word, comm⟩ (b.toNat : Int) = some st' → ridgewayref11_All.j1 (k + 2) s out at_ comm word ((1 : Nat) : Int) (b.toNat : Int) false = some (told (match takeF ⟨out, at_, word, comm⟩ (b.toNat : Int) with
            | none => .error at_
            | some st' => foldC (chars (s.data.toList.drop 1)) st')) := by
          intro st' ht
          have ho := takeF_ok hok ht
          have nx := next 1 st' (k + 1) (Nat.le_refl _) hs0 ho.1 ho.2 (by omega)
          have nx2 := next 1 st' k (Nat.le_refl _) hs0 ho.1 ho.2 (by omega)
          rw [ht]
          dsimp only
          rw [← nx]
          rw [← nx] at nx2
          unfold takeF at ht
          dsimp only at ht
          have hbr : ((1 : Nat) : Int) ≤ (s.size : Int) := by omega
          rw [ridgewayref11_All.j1, if_neg (by decide)]
          by_cases c1 : (b.toNat : Int) = 10
          · rw [if_pos c1] at ht
            obtain rfl := Option.some.inj ht
            rw [if_pos c1, if_pos (by omega), c1, rl_eq, show letterR 10 = false from rfl, Option.bind_some, if_pos (by decide), if_pos hbr, hw1]
          · rw [if_neg c1] at ht ⊢
            cases comm
            · by_cases c2 : (b.toNat : Int) = 35
              · rw [if_pos (.inr c2)] at ht
                obtain rfl := Option.some.inj ht
                rw [if_neg (by decide), if_pos c2, if_pos (by decide), if_pos hbr, hw1]
              · rw [if_neg (by rintro (h | h); · cases h
                               · exact c2 h)] at ht
                rw [if_neg (by decide), if_neg c2, rl_eq, Option.bind_some]
                by_cases c3 : letterR (b.toNat : Int) = true
                · rw [if_pos c3] at ht
                  obtain rfl := Option.some.inj ht
                  have hsz3 := hok.size
                  have hww := hok.word
                  dsimp only at hsz3 hww
                  cases word
                  · rw [if_pos c3, ridgewayref11_All.j2, if_neg (by decide), rl_eq, Option.bind_some, if_pos c3, if_pos (by decide), if_pos (by omega), if_pos (by omega), Option.bind_some, if_neg (by decide), c3, Option.bind_some, if_pos (by decide), if_pos hbr, hw1, hex]
                    rw [← nx2, if_neg (by decide), addLast_app, letter_enc c3, empty_app]
                  · have hpos := hww rfl
                    have hwl : wrap64 ((out.length : Int) - 1) = ((out.length - 1 : Nat) : Int) := by unfold wrap64; omega
                    have hrd : rd_T32 out ((out.length - 1 : Nat) : Int) = out.getD (out.length - 1) z32 := by
                      unfold rd_T32
                      rw [Int.toNat_natCast]
                    rw [if_pos c3, ridgewayref11_All.j2, if_pos rfl, hwl, hrd, if_pos (by omega), if_pos (by omega), if_pos (by decide), if_pos (by omega), if_pos (by rw [hex, show (⟨#[UInt8.ofNat ((b.toNat : Int)).toNat]⟩ : ByteArray).size = 1 from rfl]; omega), Option.bind_some, if_neg (by decide), rl_eq, Option.bind_some, c3, if_pos (by decide), if_pos hbr, hw1, hex]
                    rw [← nx2, if_pos rfl, letter_enc c3]
                    rfl
                · rw [if_neg c3] at ht
                  by_cases c4 : (b.toNat : Int) ≠ 32 ∧ (b.toNat : Int) ≠ 9
                  · rw [if_pos c4] at ht
                    cases ht
                  · rw [if_neg c4] at ht
                    obtain rfl := Option.some.inj ht
                    have c3' : letterR (b.toNat : Int) = false := by simpa using c3
                    rw [if_neg c3, ridgewayref11_All.j2, if_neg (by decide), rl_eq, Option.bind_some, if_neg c3, if_neg (by decide), c3', Option.bind_some, if_pos (by decide), if_pos hbr, hw1]
                    rw [← nx2]
            · rw [if_pos (.inl rfl)] at ht
              obtain rfl := Option.some.inj ht
              rw [if_pos rfl, if_pos (by decide), if_pos hbr, hw1]
        cases comm
        · rw [if_neg (by decide), rl_eq, Option.bind_some]
          by_cases c3 : letterR (b.toNat : Int) = true
          · rw [if_pos c3]
            have := letter_range c3
            refine good ⟨addLast (if word = true then out else out ++ [⟨0, at_, ⟨#[]⟩⟩]) (Utf8.encode (b.toNat : Int)), at_ + 1, true, false⟩ ?_
            unfold takeF
            dsimp only
            rw [if_neg (by omega), if_neg (by rintro (h | h); · cases h
                                              · omega), if_pos c3]
          · rw [if_neg c3]
            by_cases d1 : (b.toNat : Int) = 32
            · rw [if_pos d1]
              refine good ⟨out, at_ + 1, false, false⟩ ?_
              unfold takeF
              dsimp only
              rw [if_neg (by omega), if_neg (by rintro (h | h); · cases h
                                                · omega), if_neg c3, if_neg (by omega)]
            · rw [if_neg d1]
              by_cases d2 : (b.toNat : Int) = 9
              · rw [if_pos d2]
                refine good ⟨out, at_ + 1, false, false⟩ ?_
                unfold takeF
                dsimp only
                rw [if_neg (by omega), if_neg (by rintro (h | h); · cases h
                                                  · omega), if_neg c3, if_neg (by omega)]
              · rw [if_neg d2]
                by_cases d3 : (b.toNat : Int) = 10
                · rw [if_pos d3]
                  refine good ⟨out ++ [⟨1, at_, ⟨#[]⟩⟩], at_ + 1, false, false⟩ ?_
                  unfold takeF
                  dsimp only
                  rw [if_pos d3]
                · rw [if_neg d3]
                  by_cases d4 : (b.toNat : Int) = 35
                  · rw [d4]
                    rw [d4] at good
                    refine good ⟨out, at_ + 1, false, true⟩ ?_
                    unfold takeF
                    dsimp only
                    rw [if_neg (by decide), if_pos (.inr rfl)]
                  · have hne : ((b.toNat : Int) != 35) = true := by simpa using d4
                    have ht : takeF ⟨out, at_, word, false⟩ (b.toNat : Int) = none := by
                      unfold takeF
                      dsimp only
                      rw [if_neg d3, if_neg (by rintro (h | h); · cases h
                                                · omega), if_neg c3, if_pos ⟨d1, d2⟩]
                    rw [hne, ht, ridgewayref11_All.j1, if_pos rfl]
                    rfl
        · rw [if_pos rfl]
          by_cases c1 : (b.toNat : Int) = 10
          · refine good ⟨out ++ [⟨1, at_, ⟨#[]⟩⟩], at_ + 1, false, false⟩ ?_
            unfold takeF
            dsimp only
            rw [if_pos c1]
          · refine good ⟨out, at_ + 1, false, true⟩ ?_
            unfold takeF
            dsimp only
            rw [if_neg c1, if_pos (.inl rfl)]
      · -- a byte that is part of none
        have hbad : Bad s.data.toList := by rw [hbt]; unfold Bad; rw [hd]; exact ⟨rfl, rfl⟩
        rw [if_pos hbad, if_pos rfl, ridgewayref11_All.j1, if_pos rfl, chars_cons (by rw [hbt]; simp), if_pos hbad]
        rfl
      · -- a character of more bytes
        have hnb : ¬ Bad s.data.toList := by rw [hbt]; unfold Bad; omega
        rw [hbt] at hnb
        rw [hbt, chars_cons (by simp), if_neg hnb, if_neg hnb, foldC]
        have g1 : ¬ (((decL (b :: t)).1 : Int) = 10) := by omega
        obtain ⟨out, at_, word, comm⟩ := st
        dsimp only at hlen h0 hw1 next hok hat ⊢
        have hb10 : ¬ ((b.toNat : Int) = 10) := by omega
        rw [if_neg (by omega), if_pos (by omega)]
        cases comm
        · have g2 : ¬ (false = true ∨ ((decL (b :: t)).1 : Int) = 35) := by rintro (h | h); · cases h
                                                                            · omega
          have g3 : ¬ letterR ((decL (b :: t)).1 : Int) = true := by
            intro h
            have := letter_range h
            omega
          have ht : takeF ⟨out, at_, word, false⟩ ((decL (b :: t)).1 : Int) = none := by
            unfold takeF
            dsimp only
            rw [if_neg g1, if_neg g2, if_neg g3, if_pos ⟨by omega, by omega⟩]
          rw [ht, if_neg (by decide), ridgewayref11_All.j1, if_pos rfl]
          rfl
        · have ht : takeF ⟨out, at_, word, true⟩ ((decL (b :: t)).1 : Int) = some ⟨out, at_ + 1, false, true⟩ := by
            unfold takeF
            dsimp only
            rw [if_neg g1, if_pos (.inl rfl)]
          have ho := takeF_ok hok ht
          have nx := next (decL (b :: t)).2 ⟨out, at_ + 1, false, true⟩ (k + 1) (by omega) (by rw [hbt] at hroom; omega) ho.1 ho.2 (by omega)
          rw [hbt] at nx hroom
          rw [ht, if_pos rfl]
          dsimp only
          rw [← nx]
          split <;> rw [ridgewayref11_All.j1, if_neg (by decide), if_neg hb10, if_pos rfl, if_pos (by omega), if_pos (by omega), hw1]
    · have hnil : s.data.toList = [] := List.length_eq_zero_iff.1 (by rw [size_list]; omega)
      rw [ridgewayref11_All.l0, if_neg (by omega), if_pos (by omega), hnil]
      rfl
theorem ref_all (s : ByteArray) (k : Nat) (hk : 30000 ≤ k) : ridgewayref11_All.f k s = some (lexF s) := by
  unfold ridgewayref11_All.f
  by_cases h : (s.size : Int) > 8000
  · rw [if_pos h]
    unfold lexF
    rw [if_pos (by omega)]
  · rw [if_neg h, lexF_eq s (by omega)]
    exact ref_loop s.size s st0 k (Nat.le_refl _) st0_ok (by rw [show st0.at_ = 0 from rfl]; omega) (by omega)
theorem same_loop (a : List S32) (hbig : a.length ≤ 100000) : ∀ (n : Nat) (i : Int), 0 ≤ i → i ≤ a.length → a.length - i.toNat ≤ n → ridgewayref11_Same.l0 (n + 1) a a i = some true
  | n, i, h0, h1, hn => by
    rw [ridgewayref11_Same.l0]
    by_cases hi : i < (a.length : Int)
    · obtain ⟨m, rfl⟩ : ∃ m, n = m + 1 := ⟨n - 1, by omega⟩
      have hw : wrap64 (i + 1) = i + 1 := by unfold wrap64; omega
      rw [if_pos hi, if_pos h0, if_pos hi, if_neg (by simp), hw]
      exact same_loop a hbig m (i + 1) (by omega) (by omega) (by omega)
    · rw [if_neg hi]
theorem few_loop (l : List S32) (hl : l.length ≤ 9223372036854775807) : ∀ (n : Nat) (i : Int), 0 ≤ i → i ≤ l.length → l.length - i.toNat ≤ n → ∃ b, ridgewaylaw11_few.l0 (n + 1) l i = some b ∧ (b = true → l.length ≤ 60 ∧ ∀ j : Nat, i.toNat ≤ j → ∀ t, l[j]? = some t → t.f2.size ≤ 60)
  | n, i, h0, h1, hn => by
    rw [ridgewaylaw11_few.l0]
    by_cases hi : i < (l.length : Int)
    · obtain ⟨m, rfl⟩ : ∃ m, n = m + 1 := ⟨n - 1, by omega⟩
      rw [if_pos hi, if_pos h0]
      by_cases hs : (((rd_T32 l i).f2).size : Int) > 60
      · rw [if_pos hs]
        exact ⟨false, rfl, fun h => by cases h⟩
      · have hw : wrap64 (i + 1) = i + 1 := by unfold wrap64; omega
        rw [if_neg hs, hw]
        obtain ⟨b, h2, h3⟩ := few_loop l hl m (i + 1) (by omega) (by omega) (by omega)
        refine ⟨b, h2, fun hb => ⟨(h3 hb).1, ?_⟩⟩
        intro j hj t ht
        by_cases hji : j = i.toNat
        · subst hji
          obtain ⟨hlt, he⟩ := List.getElem?_eq_some_iff.1 ht
          have := rd_at32 hlt
          rw [Int.toNat_of_nonneg h0, he] at this
          rw [this] at hs
          omega
        · exact (h3 hb).2 j (by omega) t ht
    · rw [if_neg hi]
      refine ⟨_, rfl, fun hb => ⟨?_, ?_⟩⟩
      · rw [decide_eq_true_iff] at hb
        omega
      · intro j hj t ht
        obtain ⟨hlt, _⟩ := List.getElem?_eq_some_iff.1 ht
        omega
theorem showT_len (last : Int) (t : S32) : (showT last t).length ≤ t.f2.size + 1 := by
  have := sizeL t.f2
  unfold showT
  split
  · split
    · rw [List.length_cons]
      omega
    · omega
  · split <;> simp
theorem show_small : ∀ (l : List S32) (last : Int), (∀ t ∈ l, t.f2.size ≤ 60) → (showGo last l).length ≤ 61 * l.length
  | [], _, _ => Nat.zero_le _
  | t :: ts, last, h => by
    have h1 := show_small ts t.f0 (fun x hx => h x (by simp [hx]))
    have h2 := showT_len last t
    have h3 := h t (by simp)
    rw [showGo, List.length_append, List.length_cons]
    omega
theorem show_loop (l : List S32) (hbig : l.length ≤ 60) (hsh : (showGo 2 l).length ≤ 100000) : ∀ (n : Nat) (i : Int) (acc : ByteArray), 0 ≤ i → i ≤ l.length → l.length - i.toNat ≤ n →
    acc.data.toList ++ showGo (if i = 0 then 2 else (rd_T32 l (i - 1)).f0) (l.drop i.toNat) = showGo 2 l → ∃ r, ridgewayref11_Show.l0 (n + 1) l acc i = some r ∧ r.data.toList = showGo 2 l
  | n, i, acc, h0, h1, hn, hacc => by
    rw [ridgewayref11_Show.l0]
    have hsz := congrArg List.length hacc
    rw [List.length_append, size_list] at hsz
    by_cases hi : i < (l.length : Int)
    · obtain ⟨m, rfl⟩ : ∃ m, n = m + 1 := ⟨n - 1, by omega⟩
      have hw : wrap64 (i + 1) = i + 1 := by unfold wrap64; omega
      have hd := showGo_drop l i.toNat (if i = 0 then 2 else (rd_T32 l (i - 1)).f0) (by omega)
      have hrd : l[i.toNat]'(by omega) = rd_T32 l i := by
        rw [← rd_at32 (by omega), Int.toNat_of_nonneg h0]
      rw [hrd] at hd
      rw [hd, ← List.append_assoc] at hacc
      rw [hd, List.length_append] at hsz
      rw [if_pos hi, if_pos h0, hw]
      -- what follows
      have go_ : ∀ acc' : ByteArray, acc'.data.toList = acc.data.toList ++ showT (if i = 0 then 2 else (rd_T32 l (i - 1)).f0) (rd_T32 l i) → ∃ r, ridgewayref11_Show.l0 (m + 1) l acc' (i + 1) = some r ∧ r.data.toList = showGo 2 l := by
        intro acc' ha
        refine show_loop l hbig hsh m (i + 1) acc' (by omega) (by omega) (by omega) ?_
        rw [if_neg (by omega), show i + 1 - 1 = i by omega, show (i + 1).toNat = i.toNat + 1 by omega, ha]
        exact hacc
      have hzf := sizeL (rd_T32 l i).f2
      by_cases k0 : (rd_T32 l i).f0 = 0
      · rw [if_pos k0]
        by_cases i0 : i > 0
        · have hw1 : wrap64 (i - 1) = i - 1 := by unfold wrap64; omega
          rw [if_pos i0, hw1, if_pos (by omega), if_pos (by omega)]
          rw [if_neg (by omega)] at hsz go_
          by_cases kp : (rd_T32 l (i - 1)).f0 = 0
          · have hT : showT (rd_T32 l (i - 1)).f0 (rd_T32 l i) = 32 :: (rd_T32 l i).f2.data.toList := by
              unfold showT
              rw [if_pos k0, if_pos kp]
            rw [hT] at hsz go_
            rw [List.length_cons] at hsz
            rw [if_pos kp, if_pos (by omega), if_pos (by omega)]
            exact go_ _ (by simp)
          · have hT : showT (rd_T32 l (i - 1)).f0 (rd_T32 l i) = (rd_T32 l i).f2.data.toList := by
              unfold showT
              rw [if_pos k0, if_neg kp]
            rw [hT] at hsz go_
            rw [if_neg kp, if_pos (by omega)]
            exact go_ _ (by simp)
        · rw [if_pos (show i = 0 by omega)] at hsz go_
          have hT : showT 2 (rd_T32 l i) = (rd_T32 l i).f2.data.toList := by
            unfold showT
            rw [if_pos k0, if_neg (by decide)]
          rw [hT] at hsz go_
          rw [if_neg i0, if_pos (by omega)]
          exact go_ _ (by simp)
      · rw [if_neg k0]
        by_cases k1 : (rd_T32 l i).f0 = 1
        · have hT : ∀ last, showT last (rd_T32 l i) = [10] := by
            intro last
            unfold showT
            rw [if_neg k0, if_pos k1]
          rw [hT] at hsz go_
          rw [List.length_singleton] at hsz
          rw [if_pos k1, Option.bind_some, if_pos (by rw [show (strOfNums [10]).size = 1 from rfl]; omega)]
          exact go_ _ (by simp [strOfNums])
        · have hT : ∀ last, showT last (rd_T32 l i) = [] := by
            intro last
            unfold showT
            rw [if_neg k0, if_neg k1]
          rw [hT] at go_
          rw [if_neg k1]
          exact go_ _ (by simp)
    · rw [if_neg hi]
      refine ⟨acc, rfl, ?_⟩
      rw [List.drop_of_length_le (by omega), showGo, List.append_nil] at hacc
      exact hacc

/-- YOURS: def ridgewaylaw11_LexIs.Pure : Prop := ∀ (x0 : ByteArray) (x1 : List (S32)), g9 x0 → g22 x1 → ∃ k, ridgewaylaw11_LexIs.f k x0 x1 = some true -/
theorem LexIs : ridgewaylaw11_LexIs.Pure := by
  intro s l _ hl
  refine ⟨l.length + 100000 + 1, ?_⟩
  unfold ridgewaylaw11_LexIs.f
  rw [awake_true]
  simp only [Option.bind_some]
  have j0t : ridgewaylaw11_LexIs.j0 (l.length + 100000 + 1) s l true true = some true := by rw [ridgewaylaw11_LexIs.j0, if_pos rfl]
  by_cases h1 : (s.size : Int) > 8100
  · rw [if_pos h1, j0t]
  · rw [if_neg h1]
    obtain ⟨b, hb, hbt⟩ := few_loop l hl.1 (l.length + 100000) 0 (by omega) (by omega) (by omega)
    have hf : ridgewaylaw11_few.f (l.length + 100000 + 1) l = some b := hb
    rw [hf, Option.bind_some]
    cases b
    · exact j0t
    · obtain ⟨h60, hsm⟩ := hbt rfl
      have hsh := show_small l 2 (fun t ht => by
        obtain ⟨j, hj, he⟩ := List.mem_iff_getElem.1 ht
        exact hsm j (by omega) t (by rw [List.getElem?_eq_getElem hj, he]))
      have e1 := ref_all s (l.length + 100000) (by omega)
      have hlen : (lexF s).1.length ≤ 10000 := by
        by_cases hs : s.size ≤ 8000
        · rw [lexF_eq s hs]
          cases hfc : foldC (chars s.data.toList) st0 with
          | error a => exact Nat.zero_le _
          | ok st =>
            have hok := foldC_ok _ _ _ st0_ok hfc
            have hln := chars_length _ s.data.toList (Nat.le_refl _)
            rw [size_list] at hln
            have := hok.1.len
            have h0 : st0.at_ = 0 := rfl
            unfold told
            dsimp only
            rw [List.length_append, List.length_singleton]
            have := hok.2
            omega
        · unfold lexF
          rw [if_pos (by omega)]
          exact Nat.zero_le _
      have e2 : ridgewayref11_Same.f (l.length + 100000) (lexF s).1 (lexF s).1 = some true := by
        unfold ridgewayref11_Same.f
        rw [if_pos rfl]
        exact same_loop _ (by omega) (l.length + 99999) 0 (by omega) (by omega) (by omega)
      have e3 : lex_Show.f l = some ⟨(showGo 2 l).toArray⟩ := by
        unfold lex_Show.f
        rw [if_pos (by omega)]
      obtain ⟨r, hr, hrl⟩ := show_loop l h60 (by omega) (l.length + 99999) 0 ⟨#[]⟩ (by omega) (by omega) (by omega) (by simp)
      have e4 : ridgewayref11_Show.f (l.length + 100000) l = some r := hr
      rw [ridgewaylaw11_LexIs.j0, if_neg (by decide), show lex_All.f s = some (lexF s) from rfl]
      simp only [Option.bind_some, e1, e2, e3, e4, if_true]
      have : ByteArray.toList (⟨(showGo 2 l).toArray⟩ : ByteArray) = r.toList := by
        congr 1
        apply ext_list
        rw [hrl]
      rw [this]
      simp

end Go.Proofs.YtmohglifmoecnaaDoor.Pure
