/- Unlike notes have unlike names (the law NoteNames), as a statement over numbers and lists alone: of any two notes the names are the same just if the codes and the sub-codes are; without a condition. -/
import Derived.Test.YtjelhhmnpodlkaaDoorPdNoteNames
import Derived.Test.YtjelhhmnpodlkaaDoorPureNote
namespace Go.Proofs.YtjelhhmnpodlkaaDoor.Pure
open Go.RowKit Go.Proofs.YtjelhhmnpodlkaaDoor.PAll Go.Proofs.YtjelhhmnpodlkaaDoorW.PrintWords Go.Proofs.YtjelhhmnpodlkaaDoorW.PrintLast
set_option linter.unusedVariables false
theorem name_beq (c s c' s' : Int) : ((nameB c s).toList == (nameB c' s').toList) = (decide (c = c') && decide (s = s')) := by
  rw [Lib.toList_data, Lib.toList_data]
  by_cases h : (nameB c s).data.toList = (nameB c' s').data.toList
  · obtain ⟨rfl, rfl⟩ := name_inj h
    simp
  · rw [beq_eq_false_iff_ne.mpr h]
    by_cases h1 : c = c'
    · by_cases h2 : s = s'
      · subst h1; subst h2; exact absurd rfl h
      · simp [h2]
    · simp [h1]
theorem NoteNames : ridgewaylaw05_NoteNames.Pure := by
  intro x y hx hy
  refine ⟨1, ?_⟩
  unfold ridgewaylaw05_NoteNames.f
  rw [awake_f, name_f _ _ _ hx.1 hx.2.1, name_f _ _ _ hy.1 hy.2.1]
  simp only [Option.bind_some]
  rw [if_pos trivial, name_beq]
  by_cases h : x.f0 = y.f0
  · rw [if_pos h, decide_eq_true h, Bool.true_and]
    by_cases h2 : x.f1 = y.f1 <;> simp [h2]
  · rw [if_neg h, decide_eq_false h]
    rfl
end Go.Proofs.YtjelhhmnpodlkaaDoor.Pure
