/- What is put is got (the law NoteBack), as a statement over numbers and lists alone: of any note that may be its message may be, and is its; of any message that is a note's, likewise; without a condition. -/
import Derived.Test.YtjelhhmnpodlkaaDoorPdNoteBack
import Derived.Test.YtjelhhmnpodlkaaDoorPureNote
namespace Go.Proofs.YtjelhhmnpodlkaaDoor.Pure
open Go.RowKit Go.Proofs.YtjelhhmnpodlkaaDoor.PAll Go.Proofs.YtjelhhmnpodlkaaDoorW.PrintWords Go.Proofs.YtjelhhmnpodlkaaDoorW.PrintLast
set_option linter.unusedVariables false
theorem byte_rd {l : List Int} (hb : ∀ x ∈ l, g5 x) (i : Nat) (hi : i < l.length) : 0 ≤ rd l (i : Int) ∧ rd l (i : Int) ≤ 255 := by
  have e : rd l (i : Int) = l[i] := by simp [rd, List.getD_eq_getElem?_getD, hi]
  have h : (Lit.int .u8 l[i]).wf = true := hb _ (List.getElem_mem hi)
  have h' : IntKind.u8.min ≤ l[i] ∧ l[i] ≤ IntKind.u8.max := by simpa [Lit.wf] using h
  rw [e]
  exact h'
theorem wrap_byte {x : Int} (h : 0 ≤ x ∧ x ≤ 255) : wrap64 x = x := by unfold wrap64; omega
theorem sane_iff {c s : Int} {l : List Int} : saneB c s l = true ↔ 1 ≤ c ∧ c ≤ 255 ∧ 0 ≤ s ∧ s ≤ 255 ∧ l.length ≤ 4075 := by unfold saneB; rw [decide_eq_true_eq]
theorem msgSane_f (m : Int) (l : List Int) (hl : l.length ≤ 140737488351232) : msg_Sane.f m l = (msg_fits.f m (19 + (l.length : Int))).bind fun t => some t := by
  unfold msg_Sane.f
  rw [show wrap64 (19 + (l.length : Int)) = 19 + (l.length : Int) by unfold wrap64; omega]
theorem msgSane_3 (l : List Int) (h : 2 ≤ l.length) (h2 : l.length ≤ 4077) : msg_Sane.f 3 l = some true := by
  rw [msgSane_f 3 l (by omega)]
  unfold msg_fits.f msg_Least.f
  rw [if_neg (by decide), if_neg (by decide), if_pos rfl]
  simp only [Option.bind_some]
  rw [if_pos (by omega), if_pos (by omega), if_pos (by omega), if_neg (by decide)]
  rfl
theorem sameNote_refl (a b : Int) (l : List Int) : ridgewayref03_SameNote.f a b l a b l = some true := by unfold ridgewayref03_SameNote.f; rw [if_pos rfl, if_pos rfl]; simp
theorem same_refl (a : Int) (l : List Int) : ridgewayref03_Same.f a l a l = some true := by unfold ridgewayref03_Same.f; rw [if_pos rfl]; simp
theorem ev_get (m : Int) (l : List Int) (hl : l.length ≤ 140737488351232) : Ev (fun k => note_Get.f k m l) (getB m l) := Ev.step (f := fun _ => some (getB m l)) (fun k => get_f k m l hl) (Ev.now _)
theorem ev_awake : Ev (fun k => ridgewaylaw05_awake.f k) true := Ev.step (f := fun _ => some true) (fun k => awake_f k) (Ev.now _)
/-- What is put of a note that may be is got. -/
theorem get_put {c s : Int} {l : List Int} (h : saneB c s l = true) : getB 3 (c % 256 :: s % 256 :: l) = (c, s, l, true) := by
  have h' := sane_iff.1 h
  have e0 : rd (c % 256 :: s % 256 :: l) 0 = c := by show c % 256 = c; omega
  have e1 : rd (c % 256 :: s % 256 :: l) 1 = s := by show s % 256 = s; omega
  unfold getB
  rw [e0, e1, wrap_byte (by omega), wrap_byte (by omega)]
  rw [if_pos ⟨rfl, by simp, h⟩]
  rfl
theorem get_not (l : List Int) : getB 0 l = (0, 0, [], false) := by unfold getB; rw [if_neg (by simp)]
/-- What is got of a message is put as it. -/
theorem put_get {m : Int} {l : List Int} (hb : ∀ x ∈ l, g5 x) (h : m = 3 ∧ 2 ≤ l.length ∧ saneB (wrap64 (rd l 0)) (wrap64 (rd l 1)) (l.drop 2) = true) : putB (wrap64 (rd l 0)) (wrap64 (rd l 1)) (l.drop 2) = (3, l) := by
  obtain ⟨h1, h2, h3⟩ := h
  have b0 : 0 ≤ rd l 0 ∧ rd l 0 ≤ 255 := byte_rd hb 0 (by omega)
  have b1 : 0 ≤ rd l 1 ∧ rd l 1 ≤ 255 := byte_rd hb 1 (by omega)
  unfold putB
  rw [if_pos h3, wrap_byte b0, wrap_byte b1, show rd l 0 % 256 = rd l 0 by omega, show rd l 1 % 256 = rd l 1 by omega]
  match l, h2 with
  | a :: b :: t, _ => rfl
theorem ev_j1 (m : Int) (l : List Int) (hl : l.length ≤ 140737488351232) (hb : ∀ x ∈ l, g5 x) : Ev (fun k => ridgewaylaw05_NoteBack.j1 k true false m l) true := by
  refine Ev.step (f := fun k => (note_Get.f k m l).bind fun bt232 => (if bt232.2.2.2 = true then (if true = true then ((note_Sane.f bt232.1 bt232.2.1 bt232.2.2.1).bind fun t239 => (if t239 = true then ((msg_Sane.f m l).bind fun t240 => (if t240 = true then ((note_Put.f bt232.1 bt232.2.1 bt232.2.2.1).bind fun bt241 => ((ridgewayref03_Same.f bt241.1 bt241.2 m l).bind fun t245 => (some t245))) else (none))) else (none))) else (none)) else (if true = true then (some (bt232.1 == 0)) else (none)))) (fun k => ?_) (Ev.bind (ev_get m l hl) ?_)
  · simp only [ridgewaylaw05_NoteBack.j1]
    rw [if_neg (by simp)]
  · by_cases h : m = 3 ∧ 2 ≤ l.length ∧ saneB (wrap64 (rd l 0)) (wrap64 (rd l 1)) (l.drop 2) = true
    · have hg : getB m l = (wrap64 (rd l 0), wrap64 (rd l 1), l.drop 2, true) := by unfold getB; rw [if_pos h]
      rw [hg]
      refine Ev.congr (fun k => ?_) (Ev.now _)
      have h3 := sane_iff.1 h.2.2
      rw [List.length_drop] at h3
      simp only [if_true, sane_f, h.2.2, Option.bind_some, put_f, put_get hb h]
      rw [h.1, msgSane_3 l h.2.1 (by omega)]
      simp only [Option.bind_some, if_true, same_refl]
    · have hg : getB m l = (0, 0, [], false) := by unfold getB; rw [if_neg h]
      rw [hg]
      exact Ev.congr (fun k => rfl) (Ev.now _)
theorem NoteBack : ridgewaylaw05_NoteBack.Pure := by
  intro x m hx hm
  refine Ev.rounds ?_
  have hml : m.f1.length ≤ 140737488351232 := by have := hm.2.2.1; omega
  have no : Ev (fun k => ridgewaylaw05_NoteBack.j0 k true true x.f0 x.f1 x.f2 m.f0 m.f1) true := Ev.step (f := fun _ => some true) (fun k => by simp only [ridgewaylaw05_NoteBack.j0]; rw [if_pos trivial]) (Ev.now _)
  have fin := ev_j1 m.f0 m.f1 hml hm.2.2.2
  have yes : Ev (fun k => ridgewaylaw05_NoteBack.j0 k true false x.f0 x.f1 x.f2 m.f0 m.f1) true := by
    by_cases h : saneB x.f0 x.f1 x.f2 = true
    · have h' := sane_iff.1 h
      have hp : putB x.f0 x.f1 x.f2 = (3, x.f0 % 256 :: x.f1 % 256 :: x.f2) := by unfold putB; rw [if_pos h]
      have hg := ev_get 3 (x.f0 % 256 :: x.f1 % 256 :: x.f2) (by simp only [List.length_cons]; omega)
      rw [get_put h] at hg
      refine Ev.step (f := fun k => (note_Get.f k 3 (x.f0 % 256 :: x.f1 % 256 :: x.f2)).bind fun bt222 => (if (bt222.2.2.2 != true) = true then (ridgewaylaw05_NoteBack.j1 k true true m.f0 m.f1) else (if bt222.2.2.2 = true then ((ridgewayref03_SameNote.f bt222.1 bt222.2.1 bt222.2.2.1 x.f0 x.f1 x.f2).bind fun t231 => (if t231 = true then (ridgewaylaw05_NoteBack.j1 k true false m.f0 m.f1) else (ridgewaylaw05_NoteBack.j1 k true true m.f0 m.f1))) else (ridgewaylaw05_NoteBack.j1 k true true m.f0 m.f1)))) (fun k => ?_) (Ev.bind hg ?_)
      · simp only [ridgewaylaw05_NoteBack.j0, put_f, hp, Option.bind_some, sane_f, h, msgSane_3 (x.f0 % 256 :: x.f1 % 256 :: x.f2) (by simp) (by simp only [List.length_cons]; omega), if_true, Bool.false_eq_true, if_false, show ¬ ((3 : Int) = 0) by decide]
      · refine Ev.congr (fun k => ?_) fin
        simp only [sameNote_refl, Option.bind_some, if_true]
        simp
    · have hf : saneB x.f0 x.f1 x.f2 = false := by simpa using h
      have hp : putB x.f0 x.f1 x.f2 = (0, []) := by unfold putB; rw [if_neg h]
      have hg := ev_get 0 [] (by simp)
      rw [get_not] at hg
      refine Ev.step (f := fun k => (note_Get.f k 0 []).bind fun bt222 => (if (bt222.2.2.2 != false) = true then (ridgewaylaw05_NoteBack.j1 k true true m.f0 m.f1) else (if bt222.2.2.2 = true then ((msg_Sane.f 0 []).bind fun t230 => (if t230 = true then ((ridgewayref03_SameNote.f bt222.1 bt222.2.1 bt222.2.2.1 x.f0 x.f1 x.f2).bind fun t231 => (if t231 = true then (ridgewaylaw05_NoteBack.j1 k true false m.f0 m.f1) else (ridgewaylaw05_NoteBack.j1 k true true m.f0 m.f1))) else (ridgewaylaw05_NoteBack.j1 k true true m.f0 m.f1))) else (ridgewaylaw05_NoteBack.j1 k true false m.f0 m.f1)))) (fun k => ?_) (Ev.bind hg ?_)
      · simp only [ridgewaylaw05_NoteBack.j0, put_f, hp, Option.bind_some, sane_f, hf, Bool.false_eq_true, if_false, if_true]
        rfl
      · refine Ev.congr (fun k => ?_) fin
        simp
  refine Ev.bind ev_awake ?_
  by_cases h1 : (x.f2.length : Int) > 5000
  · exact Ev.congr (fun k => if_pos h1) no
  · refine Ev.congr (fun k => if_neg h1) ?_
    by_cases h2 : (m.f1.length : Int) > 5000
    · rw [decide_eq_true h2]; exact no
    · rw [decide_eq_false h2]; exact yes
end Go.Proofs.YtjelhhmnpodlkaaDoor.Pure
