import Derived.Test.YtmohglifmoecnaaDoorPdLexBad
import Derived.Test.YtmohglifmoecnaaDoorPureLex
namespace Go.Proofs.YtmohglifmoecnaaDoor.Pure
open Go.RowKit Go.Proofs.YtmohglifmoecnaaDoor.PAll Go.Proofs.YtmohglifmoecnaaDoorW.PrintWords Go.Proofs.YtmohglifmoecnaaDoorW.PrintLast

theorem low_sign : ∀ n : Fin 256, 64 ≤ Go.bits .or .u8 (Go.bits .and .u8 (n.val : Int) 31) 64 ∧ Go.bits .or .u8 (Go.bits .and .u8 (n.val : Int) 31) 64 < 96 := by decide +kernel
theorem high_sign : ∀ n : Fin 256, 248 ≤ Go.bits .or .u8 (n.val : Int) 248 ∧ Go.bits .or .u8 (n.val : Int) 248 < 256 := by decide +kernel
theorem u8_fin {x : Int} (h : g5 x) : ∃ n : Fin 256, x = (n.val : Int) := by
  have h' : IntKind.u8.min ≤ x ∧ x ≤ IntKind.u8.max := by simpa [g5, Lit.wf] using h
  have e0 : IntKind.u8.min = 0 := rfl
  have e1 : IntKind.u8.max = 255 := rfl
  rw [e0, e1] at h'
  exact ⟨⟨x.toNat, by omega⟩, by simp; omega⟩

/-- YOURS: def ridgewaylaw11_LexBad.Pure : Prop := ∀ (x0 : ByteArray) (x1 : Int) (x2 : ByteArray), g9 x0 → g5 x1 → g9 x2 → ∃ k, ridgewaylaw11_LexBad.f k x0 x1 x2 = some true -/
theorem LexBad : ridgewaylaw11_LexBad.Pure := by
  intro s x1 more _ hx _
  refine ⟨1, ?_⟩
  unfold ridgewaylaw11_LexBad.f ridgewaylaw11_LexBad.j0
  rw [awake_true]
  simp only [Option.bind_some, if_true]
  by_cases h1 : (s.size : Int) > 1000
  · rw [if_pos h1]
  · rw [if_neg h1]
    by_cases h2 : (more.size : Int) > 1000
    · rw [decide_eq_true h2, if_pos rfl]
    · rw [decide_eq_false h2, if_neg (by decide)]
      unfold lex_All.f
      simp only [Option.bind_some]
      obtain ⟨n, rfl⟩ := u8_fin hx
      have hl := low_sign n
      have hh := high_sign n
      generalize Go.bits .or .u8 (Go.bits .and .u8 (n.val : Int) 31) 64 = lo at hl ⊢
      generalize Go.bits .or .u8 (n.val : Int) 248 = hi at hh ⊢
      have hlo : (strOfNums [lo]).data.toList = [UInt8.ofNat lo.toNat] := rfl
      have hhi : (strOfNums [hi]).data.toList = [UInt8.ofNat hi.toNat] := rfl
      have slo : (strOfNums [lo]).size = 1 := rfl
      have shi : (strOfNums [hi]).size = 1 := rfl
      have blo : (UInt8.ofNat lo.toNat).toNat = lo.toNat := by rw [UInt8.toNat_ofNat']; omega
      have bhi : (UInt8.ofNat hi.toNat).toNat = hi.toNat := by rw [UInt8.toNat_ofNat']; omega
      have e0 := lexF_eq s (by omega)
      have e1 := lexF_eq (((s ++ (⟨#[10]⟩ : ByteArray)) ++ (strOfNums [lo])) ++ more) (by rw [ByteArray.size_append, ByteArray.size_append, ByteArray.size_append, slo, show (⟨#[10]⟩ : ByteArray).size = 1 from rfl]; omega)
      have e2 := lexF_eq (((s ++ (⟨#[10, 35]⟩ : ByteArray)) ++ (strOfNums [hi])) ++ more) (by rw [ByteArray.size_append, ByteArray.size_append, ByteArray.size_append, shi, show (⟨#[10, 35]⟩ : ByteArray).size = 2 from rfl]; omega)
      have l1 : (((s ++ (⟨#[10]⟩ : ByteArray)) ++ (strOfNums [lo])) ++ more).data.toList = s.data.toList ++ 10 :: UInt8.ofNat lo.toNat :: more.data.toList := by simp [hlo]
      have l2 : (((s ++ (⟨#[10, 35]⟩ : ByteArray)) ++ (strOfNums [hi])) ++ more).data.toList = s.data.toList ++ 10 :: 35 :: UInt8.ofNat hi.toNat :: more.data.toList := by simp [hhi]
      rw [l1, chars_app 10 _ (by decide) _ _ (Nat.le_refl _), chars_ascii 10 _ (by decide), chars_ascii _ _ (by omega), foldC_app, blo] at e1
      rw [l2, chars_app 10 _ (by decide) _ _ (Nat.le_refl _), chars_ascii 10 _ (by decide), chars_ascii 35 _ (by decide), chars_cons (l := UInt8.ofNat hi.toNat :: _) (by simp), if_pos (show Bad _ by unfold Bad; rw [dec_none _ _ (by omega)]; exact ⟨rfl, rfl⟩), foldC_app] at e2
      cases hf : foldC (chars s.data.toList) st0 with
      | error a =>
        rw [hf] at e0
        simp only [e0, told]
        rfl
      | ok st =>
        have hok := foldC_ok _ _ _ st0_ok hf
        have hlen := chars_length _ s.data.toList (Nat.le_refl _)
        rw [size_list] at hlen
        have hat : 0 ≤ st.at_ ∧ st.at_ ≤ 1000 := by
          have h0 : st0.at_ = 0 := rfl
          have := hok.2
          omega
        have w1 : wrap64 (st.at_ + 1) = st.at_ + 1 := by unfold wrap64; omega
        have w2 : wrap64 (st.at_ + 2) = st.at_ + 2 := by unfold wrap64; omega
        have t1 : foldC (some ((10 : UInt8).toNat) :: some lo.toNat :: chars more.data.toList) st = .error (st.at_ + 1) := by
          have : takeF (⟨st.out ++ [⟨1, st.at_, ⟨#[]⟩⟩], st.at_ + 1, false, false⟩ : LSt) (lo.toNat : Int) = none := by
            have g1 : ¬ ((lo.toNat : Int) = 10) := by omega
            have g2 : ¬ (false = true ∨ (lo.toNat : Int) = 35) := by rintro (h | h); · cases h
                                                                     · omega
            have g3 : ¬ letterR (lo.toNat : Int) = true := by
              unfold letterR
              rw [decide_eq_true_iff]
              omega
            unfold takeF
            dsimp only
            rw [if_neg g1, if_neg g2, if_neg g3, if_pos ⟨by omega, by omega⟩]
          rw [foldC, show takeF st (((10 : UInt8).toNat : Nat) : Int) = some ⟨st.out ++ [⟨1, st.at_, ⟨#[]⟩⟩], st.at_ + 1, false, false⟩ from if_pos rfl]
          dsimp only
          rw [foldC, this]
        have t2 : foldC (some ((10 : UInt8).toNat) :: some ((35 : UInt8).toNat) :: none :: chars (List.drop (decL (UInt8.ofNat hi.toNat :: more.data.toList)).2 (UInt8.ofNat hi.toNat :: more.data.toList))) st = .error (st.at_ + 2) := by
          rw [foldC, show takeF st (((10 : UInt8).toNat : Nat) : Int) = some ⟨st.out ++ [⟨1, st.at_, ⟨#[]⟩⟩], st.at_ + 1, false, false⟩ from if_pos rfl]
          dsimp only
          rw [foldC]
          have : takeF (⟨st.out ++ [⟨1, st.at_, ⟨#[]⟩⟩], st.at_ + 1, false, false⟩ : LSt) (((35 : UInt8).toNat : Nat) : Int) = some ⟨st.out ++ [⟨1, st.at_, ⟨#[]⟩⟩], st.at_ + 1 + 1, false, true⟩ := by
            unfold takeF
            rw [if_neg (by decide), if_pos (.inr rfl)]
          rw [this]
          dsimp only
          rw [foldC]
          dsimp only
          rw [Int.add_assoc]
          rfl
        rw [hf] at e0 e1 e2
        dsimp only at e1 e2
        rw [t1] at e1
        rw [t2] at e2
        simp only [e0, e1, e2, told, if_true, slo, shi, w1, w2]
        rw [if_pos (by omega), if_pos (by omega), if_pos (by omega), if_pos (by omega), if_pos (by omega), if_pos (by omega)]
        simp

end Go.Proofs.YtmohglifmoecnaaDoor.Pure
