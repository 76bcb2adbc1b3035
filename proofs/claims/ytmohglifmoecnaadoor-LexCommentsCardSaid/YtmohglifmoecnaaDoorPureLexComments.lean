import Derived.Test.YtmohglifmoecnaaDoorPdLexComments
import Derived.Test.YtmohglifmoecnaaDoorPureLexC
namespace Go.Proofs.YtmohglifmoecnaaDoor.Pure
open Go.RowKit Go.Proofs.YtmohglifmoecnaaDoor.PCom Go.Proofs.YtmohglifmoecnaaDoorW.PrintWords Go.Proofs.YtmohglifmoecnaaDoorW.PrintLast
set_option linter.unusedVariables false
theorem dec_fffd (t : List UInt8) : decL (239 :: 191 :: 189 :: t) = (65533, 3) := by
  have b0 : byteN (239 :: 191 :: 189 :: t) 0 = 239 := rfl
  have b1 : byteN (239 :: 191 :: 189 :: t) 1 = 191 := rfl
  have b2 : byteN (239 :: 191 :: 189 :: t) 2 = 189 := rfl
  unfold decL Lib.decodeN
  rw [b0, b1, b2]
  simp
/-- What the law's look at a text tells: a count: of characters, all but line feeds. -/
theorem range_good (s : ByteArray) : ∀ (k pos : Nat) (c : Int), s.size ≤ pos + k → 0 ≤ c → 0 ≤ rangeC s k pos c → (∀ x ∈ chars (s.data.toList.drop pos), ∃ r : Nat, x = some r ∧ r ≠ 10) ∧ rangeC s k pos c = c + (chars (s.data.toList.drop pos)).length
  | 0, pos, c, h, _, _ => by
    rw [List.drop_of_length_le (by rw [size_list]; omega)]
    refine ⟨(fun x hx => by cases hx), ?_⟩
    show c = c + ((0 : Nat) : Int)
    omega
  | k + 1, pos, c, h, h0, hr => by
    rw [rangeC] at hr ⊢
    by_cases hp : pos < s.size
    · rw [if_pos hp] at hr ⊢
      have hne : s.data.toList.drop pos ≠ [] := by
        intro h0
        have := congrArg List.length h0
        rw [List.length_drop, size_list, List.length_nil] at this
        omega
      have hw := dec_width (s.data.toList.drop pos)
      rw [dec_list] at hr ⊢
      by_cases hb : (decL (s.data.toList.drop pos)).1 = 10 ∨ (decL (s.data.toList.drop pos)).1 = 65533 ∧ (s.size < pos + 3 ∨ (s.extract pos (pos + 3)).toList ≠ [239, 191, 189])
      · rw [if_pos hb] at hr
        omega
      · rw [if_neg hb] at hr ⊢
        have hgood : ¬ Bad (s.data.toList.drop pos) := by
          intro hB
          refine hb (.inr ⟨hB.1, ?_⟩)
          by_cases h3 : s.size < pos + 3
          · exact .inl h3
          · refine .inr (fun he => ?_)
            have hl : (s.data.toList.drop pos).take 3 = [239, 191, 189] := by
              have := he
              rw [ByteArray.toList_eq, ByteArray.data_extract, Array.toList_extract, List.extract_eq_take_drop, show pos + 3 - pos = 3 by omega] at this
              exact this
            have hd : s.data.toList.drop pos = 239 :: 191 :: 189 :: (s.data.toList.drop pos).drop 3 := by
              have := List.take_append_drop 3 (s.data.toList.drop pos)
              rw [hl] at this
              exact this.symm
            have := hB.2
            rw [hd, dec_fffd] at this
            exact absurd this (by decide)
        obtain ⟨r1, r2⟩ := range_good s k (pos + (decL (s.data.toList.drop pos)).2) (c + 1) (by omega) (by omega) hr
        rw [chars_cons hne, if_neg hgood, List.drop_drop]
        refine ⟨?_, ?_⟩
        · intro x hx
          rcases List.mem_cons.1 hx with hx | hx
          · exact ⟨_, hx, fun h => hb (.inl h)⟩
          · exact r1 x hx
        · rw [r2, List.length_cons]
          omega
    · rw [if_neg hp, List.drop_of_length_le (by rw [size_list]; omega)]
      refine ⟨(fun x hx => by cases hx), ?_⟩
      show c = c + ((0 : Nat) : Int)
      omega
/-- Characters of a comment. -/
theorem foldC_comm : ∀ (cs : List (Option Nat)) (out : List S32) (a : Int) (wd : Bool), (∀ x ∈ cs, ∃ r : Nat, x = some r ∧ r ≠ 10) → ∃ wd', foldC cs ⟨out, a, wd, true⟩ = .ok ⟨out, a + cs.length, wd', true⟩
  | [], out, a, wd, _ => ⟨wd, by simp [foldC]⟩
  | x :: cs, out, a, wd, h => by
    obtain ⟨r, rfl, hr⟩ := h x (by simp)
    obtain ⟨wd', h1⟩ := foldC_comm cs out (a + 1) false (fun y hy => h y (by simp [hy]))
    refine ⟨wd', ?_⟩
    have ht : takeF ⟨out, a, wd, true⟩ (r : Int) = some ⟨out, a + 1, false, true⟩ := by
      unfold takeF
      dsimp only
      rw [if_neg (by omega), if_pos (.inl rfl)]
    rw [foldC, ht]
    dsimp only
    rw [h1, List.length_cons]
    congr 2
    omega
theorem rd_q (xs : List S32) (j : Nat) : rd_T32 xs (j : Int) = (xs[j]?).getD z32 := by
  unfold rd_T32
  rw [Int.toNat_natCast, List.getD_eq_getElem?_getD]
theorem com_loop (A : List S32) (E F : S32) (hF : F.f0 = 2) (hA : A.length ≤ 10000) : ∀ (m j : Nat), j ≤ A.length → A.length - j ≤ m → ridgewaylaw11_LexComments.l0 (m + 1) true (A ++ [E]) (A ++ [F]) (j : Int) = some true
  | m, j, hj, hm => by
    have hl : ∀ X : S32, (A ++ [X]).length = A.length + 1 := fun X => by simp
    have hwl : wrap64 (((A.length + 1 : Nat) : Int) - 1) = (A.length : Int) := by unfold wrap64; omega
    rw [ridgewaylaw11_LexComments.l0, hl, hl, hwl]
    by_cases hi : j < A.length
    · obtain ⟨m, rfl⟩ : ∃ x, m = x + 1 := ⟨m - 1, by omega⟩
      have hw : wrap64 ((j : Int) + 1) = ((j + 1 : Nat) : Int) := by unfold wrap64; omega
      have r1 : ∀ X : S32, rd_T32 (A ++ [X]) (j : Int) = A[j] := by
        intro X
        rw [rd_q, List.getElem?_append_left hi, List.getElem?_eq_getElem hi]
        rfl
      rw [if_pos (by omega), if_pos (by omega), if_pos (by omega), if_pos (by omega), r1, r1, if_neg (by simp), hw]
      exact com_loop A E F hF hA m (j + 1) (by omega) (by omega)
    · have r1 : rd_T32 (A ++ [F]) (A.length : Int) = F := by
        rw [rd_q, List.getElem?_append_right (Nat.le_refl _), Nat.sub_self]
        rfl
      rw [if_neg (by omega), if_pos rfl, if_pos (by omega), if_pos (by omega), r1, hF]
      rfl

/-- YOURS: def ridgewaylaw11_LexComments.Pure : Prop := ∀ (x0 : ByteArray) (x1 : ByteArray), g9 x0 → g9 x1 → ∃ k, ridgewaylaw11_LexComments.f k x0 x1 = some true -/
theorem LexComments : ridgewaylaw11_LexComments.Pure := by
  intro s t _ _
  refine ⟨20000, ?_⟩
  unfold ridgewaylaw11_LexComments.f
  rw [awake_true]
  simp only [Option.bind_some]
  have j0t : ridgewaylaw11_LexComments.j0 20000 s t true true = some true := by rw [ridgewaylaw11_LexComments.j0, if_pos rfl]
  by_cases h1 : (s.size : Int) > 1000
  · rw [if_pos h1, j0t]
  · rw [if_neg h1]
    by_cases h2 : (t.size : Int) > 1000
    · rw [decide_eq_true h2, j0t]
    · rw [decide_eq_false h2, ridgewaylaw11_LexComments.j0, if_neg (by decide)]
      have hc : ridgewayref11_whole.f t = some (rangeC t t.size 0 0) := if_pos (by omega)
      rw [hc, Option.bind_some]
      by_cases hneg : rangeC t t.size 0 0 < 0
      · rw [if_pos hneg]
      · rw [if_neg hneg]
        obtain ⟨hall, hcnt⟩ := range_good t t.size 0 0 (by omega) (by omega) (by omega)
        rw [List.drop_zero] at hall hcnt
        have e0 : lex_All.f s = some (told (foldC (chars s.data.toList) st0)) := congrArg some (lexF_eq s (by omega))
        have e2 := lexF_eq ((s ++ (⟨#[35]⟩ : ByteArray)) ++ t) (by rw [ByteArray.size_append, ByteArray.size_append, show (⟨#[35]⟩ : ByteArray).size = 1 from rfl]; omega)
        have l2 : ((s ++ (⟨#[35]⟩ : ByteArray)) ++ t).data.toList = s.data.toList ++ 35 :: t.data.toList := by simp
        rw [l2, chars_app 35 _ (by decide) _ _ (Nat.le_refl _), chars_ascii 35 _ (by decide), foldC_app] at e2
        have hln := chars_length _ s.data.toList (Nat.le_refl _)
        have hlt := chars_length _ t.data.toList (Nat.le_refl _)
        rw [size_list] at hln hlt
        have z0 : st0.at_ = 0 := rfl
        have tk : ∀ st, told (.ok st) = (st.out ++ [⟨2, st.at_, ⟨#[]⟩⟩], st.at_, 0) := fun _ => rfl
        have te : ∀ a, told (.error a) = (([] : List S32), a, 5) := fun _ => rfl
        rw [e0, show lex_All.f ((s ++ (⟨#[35]⟩ : ByteArray)) ++ t) = some (lexF ((s ++ (⟨#[35]⟩ : ByteArray)) ++ t)) from rfl, e2]
        simp only [Option.bind_some]
        rw [if_pos (by omega), if_pos (by omega)]
        cases hf : foldC (chars s.data.toList) st0 with
        | error a =>
          simp only [te]
          rw [if_neg (by decide)]
          simp
        | ok st =>
          have hok := foldC_ok _ _ _ st0_ok hf
          have hlen := hok.1.len
          have ha0 := hok.1.a0
          have h2_ := hok.2
          obtain ⟨wd', hcm⟩ := foldC_comm (chars t.data.toList) st.out (st.at_ + 1) false hall
          have tl : foldC (some ((35 : UInt8).toNat) :: chars t.data.toList) st = .ok ⟨st.out, st.at_ + 1 + (chars t.data.toList).length, wd', true⟩ := by
            rw [foldC, show takeF st (((35 : UInt8).toNat : Nat) : Int) = some ⟨st.out, st.at_ + 1, false, true⟩ from by
              unfold takeF
              rw [if_neg (by decide), if_pos (.inr rfl)]]
            exact hcm
          have w1 : wrap64 (st.at_ + 1) = st.at_ + 1 := by unfold wrap64; omega
          have w2 : wrap64 (st.at_ + 1 + (0 + ((chars t.data.toList).length : Int))) = st.at_ + 1 + ((chars t.data.toList).length : Int) := by unfold wrap64; omega
          simp only [tl, tk]
          have hlc : (((st.out ++ [(⟨2, st.at_, ⟨#[]⟩⟩ : S32)]).length : Nat) : Int) = (((st.out ++ [(⟨2, st.at_ + 1 + ((chars t.data.toList).length : Int), ⟨#[]⟩⟩ : S32)]).length : Nat) : Int) := by simp
          have hne : ((st.at_ + 1 + ((chars t.data.toList).length : Int)) != (st.at_ + 1 + ((chars t.data.toList).length : Int))) = false := by simp
          rw [if_pos trivial, if_pos trivial, if_pos hlc, hcnt, w1, w2, hne, ridgewaylaw11_LexComments.j1, if_neg (by decide)]
          exact com_loop st.out _ _ rfl (by omega) 19997 0 (by omega) (by omega)

end Go.Proofs.YtmohglifmoecnaaDoor.Pure
