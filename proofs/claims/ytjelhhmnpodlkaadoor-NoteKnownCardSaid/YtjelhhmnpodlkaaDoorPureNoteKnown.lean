/- What is known may be (the law NoteKnown), as a statement over numbers alone: of any two numbers what is known is a note's, within its bounds; thirty-five are known; without a condition. -/
import Derived.Test.YtjelhhmnpodlkaaDoorPdNoteKnown
import Derived.Test.YtjelhhmnpodlkaaDoorPureNote
namespace Go.Proofs.YtjelhhmnpodlkaaDoor.Pure
open Go.RowKit Go.Proofs.YtjelhhmnpodlkaaDoor.PAll Go.Proofs.YtjelhhmnpodlkaaDoorW.PrintWords Go.Proofs.YtjelhhmnpodlkaaDoorW.PrintLast
set_option linter.unusedVariables false
theorem known_cases {c s : Int} (h : knownB c s = true) : 1 ≤ c ∧ c ≤ 6 ∧ 0 ≤ s ∧ s ≤ 11 := by
  have h' := h
  unfold knownB at h
  simp only [Bool.and_eq_true, decide_eq_true_eq] at h
  obtain ⟨h1, h2, h3, h4, h5⟩ := h
  refine ⟨h1, h2, h3, ?_⟩
  obtain ⟨m, rfl⟩ := Int.eq_ofNat_of_zero_le h3
  obtain ⟨n, rfl⟩ := Int.eq_ofNat_of_zero_le (show 0 ≤ c by omega)
  have key : ∀ n : Fin 7, ∀ m : Fin 32, knownB ((n.val : Nat) : Int) ((m.val : Nat) : Int) = true → m.val ≤ 11 := by decide +kernel
  have := key ⟨n, by omega⟩ ⟨m, by omega⟩ h'
  show (m : Int) ≤ 11
  have : m ≤ 11 := this
  omega
/-- How many of the last d sub-codes are known. -/
def cf (c : Int) : Nat → Nat
  | 0 => 0
  | d + 1 => (if knownB c (12 - (d : Int)) = true then 1 else 0) + cf c d
theorem cf_le (c : Int) : ∀ d, cf c d ≤ d
  | 0 => Nat.le_refl _
  | d + 1 => by
    have := cf_le c d
    simp only [cf]
    split <;> omega
/-- How many codes' are known, of the last e ones. -/
def tot : Nat → Nat
  | 0 => 0
  | e + 1 => cf (8 - (e : Int)) 14 + tot e
theorem tot_all : tot 10 = 35 := by decide +kernel
theorem small_wrap (n : Int) (h0 : -1000 ≤ n) (h : n ≤ 1000) : wrap64 n = n := by unfold wrap64; omega
theorem ev_in (x0 x1 c : Int) (hc0 : -1 ≤ c) (hc : c ≤ 8) (r : Bool) : ∀ (d n : Nat), d ≤ 14 → n + d ≤ 400 → Ev (fun k => ridgewaylaw05_NoteKnown.l0 k x0 x1 true ((n + cf c d : Nat) : Int) (c + 1)) r → Ev (fun k => ridgewaylaw05_NoteKnown.l1 k x0 x1 true (n : Int) c (13 - (d : Int))) r := by
  intro d
  induction d with
  | zero =>
    intro n _ _ h
    refine Ev.step (fun k => ?_) h
    simp only [ridgewaylaw05_NoteKnown.l1]
    rw [if_neg (by omega), small_wrap (c + 1) (by omega) (by omega)]
    rfl
  | succ d ih =>
    intro n hd hn h
    have e : (13 - ((d + 1 : Nat) : Int)) = 12 - (d : Int) := by omega
    rw [e]
    have e2 : wrap64 ((12 - (d : Int)) + 1) = 13 - (d : Int) := by have := small_wrap ((12 - (d : Int)) + 1) (by omega) (by omega); omega
    cases hk : knownB c (12 - (d : Int)) with
    | true =>
      have e3 : n + cf c (d + 1) = (n + 1) + cf c d := by simp only [cf, hk, if_true]; omega
      rw [e3] at h
      refine Ev.step (fun k => ?_) (ih (n + 1) (by omega) (by omega) h)
      simp only [ridgewaylaw05_NoteKnown.l1]
      rw [if_pos (by omega), known_f, hk, e2]
      simp only [Option.bind_some]
      rw [if_pos trivial, small_wrap _ (by omega) (by omega)]
      rfl
    | false =>
      have e3 : n + cf c (d + 1) = n + cf c d := by simp [cf, hk]
      rw [e3] at h
      refine Ev.step (fun k => ?_) (ih n (by omega) (by omega) h)
      simp only [ridgewaylaw05_NoteKnown.l1]
      rw [if_pos (by omega), known_f, hk, e2]
      simp only [Option.bind_some]
      rw [if_neg (by simp)]
theorem ev_out (x0 x1 : Int) (r : Bool) : ∀ (e n : Nat), e ≤ 10 → n + 14 * e ≤ 280 → Ev (fun k => ridgewaylaw05_NoteKnown.l0 k x0 x1 true ((n + tot e : Nat) : Int) 9) r → Ev (fun k => ridgewaylaw05_NoteKnown.l0 k x0 x1 true (n : Int) (9 - (e : Int))) r := by
  intro e
  induction e with
  | zero => intro n _ _ h; exact h
  | succ e ih =>
    intro n he hn h
    have e1 : (9 - ((e + 1 : Nat) : Int)) = 8 - (e : Int) := by omega
    rw [e1]
    have hle := cf_le (8 - (e : Int)) 14
    have h2 := ih (n + cf (8 - (e : Int)) 14) (by omega) (by omega) (by rw [show n + cf (8 - (e : Int)) 14 + tot e = n + tot (e + 1) by simp only [tot]; omega]; exact h)
    rw [show (9 - (e : Int)) = (8 - (e : Int)) + 1 by omega] at h2
    have h3 := ev_in x0 x1 (8 - (e : Int)) (by omega) (by omega) r 14 n (by omega) (by omega) h2
    refine Ev.step (fun k => ?_) h3
    simp only [ridgewaylaw05_NoteKnown.l0]
    rw [if_pos (by omega)]
    rfl
theorem NoteKnown : ridgewaylaw05_NoteKnown.Pure := by
  intro c s hc hs
  refine Ev.rounds ?_
  have fin : Ev (fun k => ridgewaylaw05_NoteKnown.l0 k c s true ((0 + tot 10 : Nat) : Int) 9) true := by
    rw [Nat.zero_add, tot_all]
    refine Ev.step (f := fun _ => some true) (fun k => ?_) (Ev.now _)
    simp only [ridgewaylaw05_NoteKnown.l0]
    rw [if_neg (by omega), if_pos trivial, if_pos (by rfl), known_f]
    simp only [Option.bind_some]
    cases h : knownB c s with
    | false => rfl
    | true =>
      obtain ⟨h1, h2, h3, h4⟩ := known_cases h
      rw [if_pos rfl, if_pos h1, if_pos h2, if_pos h3, decide_eq_true h4]
  have loop : Ev (fun k => ridgewaylaw05_NoteKnown.j0 k c s true false) true := by
    refine Ev.step (fun k => ?_) (ev_out c s true 10 0 (by omega) (by omega) fin)
    simp only [ridgewaylaw05_NoteKnown.j0]
    rw [if_neg (by simp)]
    rfl
  obtain ⟨K, hK⟩ := loop
  refine ⟨K + 1, fun k hk => ?_⟩
  obtain ⟨j, rfl⟩ : ∃ j, k = j + 1 := ⟨k - 1, by omega⟩
  have e := hK (j + 1) (by omega)
  show ridgewaylaw05_NoteKnown.f (j + 1) c s = some true
  unfold ridgewaylaw05_NoteKnown.f
  rw [awake_f, known_f]
  simp only [Option.bind_some]
  cases h : knownB c s with
  | false => exact e
  | true =>
    obtain ⟨h1, h2, h3, h4⟩ := known_cases h
    rw [if_pos rfl, sane_f]
    have : saneB c s [] = true := by unfold saneB; rw [decide_eq_true_eq]; simp; omega
    rw [this]
    exact e
end Go.Proofs.YtjelhhmnpodlkaaDoor.Pure
