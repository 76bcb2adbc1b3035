import Derived.Test.YtckjfplocmbcmaaDoorPdPrefixText
import Derived.Test.YtckjfplocmbcmaaDoorPureText
namespace Go.Proofs.YtckjfplocmbcmaaDoor.Pure
open Go.RowKit Go.Proofs.YtckjfplocmbcmaaDoor.PAll Go.Proofs.YtckjfplocmbcmaaDoorW.PrintWords Go.Proofs.YtckjfplocmbcmaaDoorW.PrintLast Go.Proofs.YtckjfplocmbcmaaDoorW.PrintMore
set_option linter.unusedVariables false
theorem text_tail (s : ByteArray) (hs : s.size ≤ 60) : ridgewaylaw02_PrefixText.j0 41 s true false = some true := by
  rw [ridgewaylaw02_PrefixText.j0, if_neg (by decide)]
  obtain ⟨a, n, ok, h, h1, h2⟩ := read_spec 34 s (by omega)
  rw [h, Option.bind_some]
  cases ok
  · obtain ⟨rfl, rfl⟩ := h2 rfl
    dsimp only
    rw [if_neg (by decide), if_pos rfl]
    rfl
  · obtain ⟨hsn, hi, rfl⟩ := h1 rfl
    dsimp only
    rw [if_pos rfl, if_pos rfl, sane_eq a n hi, Option.bind_some, hsn, if_pos rfl, text_eq 32 a n hi, Option.bind_some, if_pos hsn, beq_self_eq_true]
theorem textP_ne (a n : Int) : ¬ (textP a n).toList = [] := by
  rw [ByteArray.toList_eq]
  show ¬ textL a n = []
  unfold textL
  simp
theorem text_f (a n : Int) (s : ByteArray) (ha : i64 a) : ridgewaylaw02_PrefixText.f 41 a n s = some true := by
  unfold ridgewaylaw02_PrefixText.f
  rw [ridgewaylaw02_awake.mono _ _ awake_yes, Option.bind_some]
  by_cases hs : (s.size : Int) > 60
  · rw [if_pos hs]
  · rw [if_neg hs]
    have ht := text_tail s (by omega)
    rw [text_eq 33 a n ha, Option.bind_some, sane_eq a n ha]
    by_cases h : saneP a n = true
    · rw [if_pos h, read_text 35 a n h, Option.bind_some, Option.bind_some, h, if_pos rfl, if_neg (textP_ne a n), Option.bind_some, if_pos rfl, if_pos rfl]
      dsimp only
      rw [beq_self_eq_true, beq_self_eq_true]
      exact ht
    · have h' : saneP a n = false := by simpa using h
      rw [if_neg h]
      have hr : prefix_Read.f 41 ⟨#[]⟩ = some (0, 0, false) := by decide +kernel
      rw [hr, Option.bind_some, Option.bind_some, h', if_neg (by decide), if_pos (by rw [ByteArray.toList_eq]), Option.bind_some, if_neg (by decide), if_neg (by decide)]
      exact ht
theorem PrefixText : ridgewaylaw02_PrefixText.Pure := by
  intro p s hp hs
  exact ⟨41, text_f _ _ _ (g3_iff hp.1)⟩
end Go.Proofs.YtckjfplocmbcmaaDoor.Pure
