/- Plain facts on routes' order: how two routes compare, as numbers and lists alone: the comparison is told the other way round by its negative, it is one of -1, 0 and 1, and it is transitive; and that few routes are told by the reference. No program is in here. -/
import Derived.Test.YtmbacpnmniemnaaPAllx3
namespace Go.Proofs.Ytmbacpnmniemnaa.Pure
open Go.RowKit Go.Proofs.Ytmbacpnmniemnaa.PAll Go.Proofs.YtmbacpnmniemnaaW.PrintWords Go.Proofs.YtmbacpnmniemnaaW.PrintLast
set_option linter.unusedVariables false

/-- A comparison. -/
structure Cm {α : Type} (c : α → α → Int) : Prop where
  range : ∀ a b, c a b = -1 ∨ c a b = 0 ∨ c a b = 1
  anti : ∀ a b, c b a = - c a b
  zero : ∀ a b d, c a b = 0 → c a d = c b d
  less : ∀ a b d, c a b = -1 → c b d = -1 → c a d = -1
theorem cmpI_cases (a b : Int) : (a < b ∧ cmpI a b = -1) ∨ (a = b ∧ cmpI a b = 0) ∨ (b < a ∧ cmpI a b = 1) := by
  unfold cmpI
  by_cases h : a < b
  · exact .inl ⟨h, by rw [if_pos h]⟩
  · by_cases h2 : a > b
    · exact .inr (.inr ⟨h2, by rw [if_neg h, if_pos h2]⟩)
    · exact .inr (.inl ⟨by omega, by rw [if_neg h, if_neg h2]⟩)
theorem Cm.int : Cm cmpI where
  range a b := by rcases cmpI_cases a b with ⟨_, h⟩ | ⟨_, h⟩ | ⟨_, h⟩ <;> simp [h]
  anti a b := by rcases cmpI_cases a b with ⟨h, e⟩ | ⟨h, e⟩ | ⟨h, e⟩ <;> rcases cmpI_cases b a with ⟨h', e'⟩ | ⟨h', e'⟩ | ⟨h', e'⟩ <;> omega
  zero a b d h := by
    rcases cmpI_cases a b with ⟨h', e⟩ | ⟨h', e⟩ | ⟨h', e⟩
    · omega
    · rw [h']
    · omega
  less a b d h h' := by
    rcases cmpI_cases a b with ⟨h1, e⟩ | ⟨h1, e⟩ | ⟨h1, e⟩ <;> rcases cmpI_cases b d with ⟨h2, e'⟩ | ⟨h2, e'⟩ | ⟨h2, e'⟩ <;> rcases cmpI_cases a d with ⟨h3, e''⟩ | ⟨h3, e''⟩ | ⟨h3, e''⟩ <;> omega
theorem cmpL_anti : ∀ a b : List Int, cmpL b a = - cmpL a b
  | [], [] => rfl
  | [], _ :: _ => rfl
  | _ :: _, [] => rfl
  | x :: a, y :: b => by
    have ih := cmpL_anti a b
    have hx := Cm.int.anti x y
    simp only [cmpL]
    by_cases h : cmpI x y = 0
    · rw [if_pos h, if_pos (by omega), ih]
    · rw [if_neg h, if_neg (by omega), hx]
theorem cmpL_range : ∀ a b : List Int, cmpL a b = -1 ∨ cmpL a b = 0 ∨ cmpL a b = 1
  | [], [] => .inr (.inl rfl)
  | [], _ :: _ => .inl rfl
  | _ :: _, [] => .inr (.inr rfl)
  | x :: a, y :: b => by
    have ih := cmpL_range a b
    have hx := Cm.int.range x y
    simp only [cmpL]
    by_cases h : cmpI x y = 0
    · rw [if_pos h]; exact ih
    · rw [if_neg h]; exact hx
theorem cmpI_eq {a b : Int} (h : cmpI a b = 0) : a = b := by rcases cmpI_cases a b with ⟨_, e⟩ | ⟨h, _⟩ | ⟨_, e⟩ <;> omega
theorem cmpI_self (a : Int) : cmpI a a = 0 := by rcases cmpI_cases a a with ⟨h, _⟩ | ⟨_, e⟩ | ⟨h, _⟩ <;> omega
theorem cmpL_eq : ∀ {a b : List Int}, cmpL a b = 0 → a = b
  | [], [], _ => rfl
  | [], _ :: _, h => by simp [cmpL] at h
  | _ :: _, [], h => by simp [cmpL] at h
  | x :: a, y :: b, h => by
    simp only [cmpL] at h
    by_cases hx : cmpI x y = 0
    · rw [if_pos hx] at h; rw [cmpI_eq hx, cmpL_eq h]
    · rw [if_neg hx] at h; exact absurd h hx
theorem cmpL_self : ∀ a : List Int, cmpL a a = 0
  | [] => rfl
  | x :: a => by simp only [cmpL]; rw [if_pos (cmpI_self x)]; exact cmpL_self a
theorem cmpL_less : ∀ a b d : List Int, cmpL a b = -1 → cmpL b d = -1 → cmpL a d = -1
  | [], [], _, h, _ => by simp [cmpL] at h
  | [], _ :: _, [], _, h => by simp [cmpL] at h
  | [], _ :: _, _ :: _, _, _ => rfl
  | _ :: _, [], _, h, _ => by simp [cmpL] at h
  | _ :: _, _ :: _, [], _, h => by simp [cmpL] at h
  | x :: a, y :: b, z :: d, h, h' => by
    simp only [cmpL] at h h' ⊢
    by_cases h1 : cmpI x y = 0
    · rw [if_pos h1] at h
      rw [cmpI_eq h1]
      by_cases h2 : cmpI y z = 0
      · rw [if_pos h2] at h' ⊢
        exact cmpL_less a b d h h'
      · rw [if_neg h2] at h' ⊢
        exact h'
    · rw [if_neg h1] at h
      by_cases h2 : cmpI y z = 0
      · rw [← cmpI_eq h2, if_neg h1]
        exact h
      · rw [if_neg h2] at h'
        have := Cm.int.less x y z h h'
        rw [if_neg (by omega)]
        exact this
theorem Cm.list : Cm cmpL where
  range := cmpL_range
  anti := cmpL_anti
  zero a b d h := by rw [cmpL_eq h]
  less := cmpL_less
theorem Cm.on {α β : Type} {c : β → β → Int} (f : α → β) (h : Cm c) : Cm (fun a b => c (f a) (f b)) where
  range a b := h.range _ _
  anti a b := h.anti _ _
  zero a b d := h.zero _ _ _
  less a b d := h.less _ _ _
theorem Cm.rev {α : Type} {c : α → α → Int} (h : Cm c) : Cm (fun a b => c b a) where
  range a b := h.range _ _
  anti a b := h.anti _ _
  zero a b d e := by
    have h1 := h.anti b a
    have h2 := h.anti a d
    have h3 := h.anti b d
    have h4 := h.zero a b d (by omega)
    omega
  less a b d e e' := h.less d b a e' e
/-- The first that tells two apart. -/
def lex {α : Type} : List (α → α → Int) → α → α → Int
  | [], _, _ => 0
  | c :: l, a, b => if c a b = 0 then lex l a b else c a b
theorem Cm.lex {α : Type} : ∀ (l : List (α → α → Int)), (∀ c ∈ l, Cm c) → Cm (Pure.lex l)
  | [], _ => ⟨fun _ _ => .inr (.inl rfl), fun _ _ => rfl, fun _ _ _ _ => rfl, fun _ _ _ h => by simp [Pure.lex] at h⟩
  | c :: l, hl => by
    have hc := hl c (by simp)
    have ih := Cm.lex l (fun d hd => hl d (by simp [hd]))
    refine ⟨fun a b => ?_, fun a b => ?_, fun a b d h => ?_, fun a b d h h' => ?_⟩
    · simp only [Pure.lex]
      split
      · exact ih.range a b
      · exact hc.range a b
    · have e := hc.anti a b
      simp only [Pure.lex]
      by_cases h : c a b = 0
      · rw [if_pos h, if_pos (by omega)]; exact ih.anti a b
      · rw [if_neg h, if_neg (by omega)]; exact e
    · simp only [Pure.lex] at h ⊢
      by_cases h1 : c a b = 0
      · rw [if_pos h1] at h
        rw [hc.zero a b d h1, ih.zero a b d h]
      · rw [if_neg h1] at h; exact absurd h h1
    · simp only [Pure.lex] at h h' ⊢
      have hr := hc.range a d
      by_cases h1 : c a b = 0
      · rw [if_pos h1] at h
        have e := hc.zero a b d h1
        by_cases h2 : c b d = 0
        · rw [if_pos h2] at h'
          rw [if_pos (by omega)]
          exact ih.less a b d h h'
        · rw [if_neg h2] at h'
          rw [if_neg (by omega)]
          omega
      · rw [if_neg h1] at h
        by_cases h2 : c b d = 0
        · have e1 := hc.anti a b
          have e2 := hc.anti a d
          have e3 := hc.anti b d
          have e4 := hc.zero d b a (by omega)
          rw [if_neg (by omega)]
          omega
        · rw [if_neg h2] at h'
          have := hc.less a b d h h'
          rw [if_neg (by omega)]
          exact this

/-- How two routes compare. -/
def cmpR (a b : S27) : Int := route_Compare.v a.f0 a.f1.f0 a.f1.f1 a.f1.f2 a.f1.f3 a.f2 b.f0 b.f1.f0 b.f1.f1 b.f1.f2 b.f1.f3 b.f2
def parts : List (S27 → S27 → Int) := [fun a b => cmpI b.f0 a.f0, fun a b => cmpI (a.f1.f1.length : Int) (b.f1.f1.length : Int), fun a b => cmpI a.f1.f0 b.f1.f0, fun a b => cmpL a.f1.f1 b.f1.f1, fun a b => cmpI a.f1.f2 b.f1.f2, fun a b => cmpI a.f1.f3 b.f1.f3, fun a b => cmpI a.f2 b.f2]
theorem cmpR_lex (a b : S27) : cmpR a b = lex parts a b := rfl
theorem cm : Cm cmpR := by
  have h : Cm (lex parts) := Cm.lex parts (by
    intro c hc
    simp only [parts, List.mem_cons, List.not_mem_nil, or_false] at hc
    rcases hc with rfl | rfl | rfl | rfl | rfl | rfl | rfl
    · exact Cm.rev (Cm.on (fun a : S27 => a.f0) Cm.int)
    · exact Cm.on (fun a : S27 => (a.f1.f1.length : Int)) Cm.int
    · exact Cm.on (fun a : S27 => a.f1.f0) Cm.int
    · exact Cm.on (fun a : S27 => a.f1.f1) Cm.list
    · exact Cm.on (fun a : S27 => a.f1.f2) Cm.int
    · exact Cm.on (fun a : S27 => a.f1.f3) Cm.int
    · exact Cm.on (fun a : S27 => a.f2) Cm.int)
  exact ⟨fun a b => h.range a b, fun a b => h.anti a b, fun a b d => h.zero a b d, fun a b d => h.less a b d⟩
theorem cmpR_self (a : S27) : cmpR a a = 0 := by have := cm.anti a a; omega
/-- No worse and no worse is no worse. -/
theorem cmpR_le (a b d : S27) (h : cmpR a b ≤ 0) (h' : cmpR b d ≤ 0) : cmpR a d ≤ 0 := by
  rcases cm.range a b with h1 | h1 | h1
  · rcases cm.range b d with h2 | h2 | h2
    · have := cm.less a b d h1 h2; omega
    · have e1 := cm.anti a b; have e2 := cm.anti a d; have e3 := cm.anti b d; have e4 := cm.zero d b a (by omega); omega
    · omega
  · have := cm.zero a b d h1; omega
  · omega
theorem cmpR_lt (a b d : S27) (h : cmpR a b < 0) (h' : cmpR b d ≤ 0) : cmpR a d < 0 := by
  rcases cm.range a b with h1 | h1 | h1
  · rcases cm.range b d with h2 | h2 | h2
    · have := cm.less a b d h1 h2; omega
    · have e1 := cm.anti a b; have e2 := cm.anti a d; have e3 := cm.anti b d; have e4 := cm.zero d b a (by omega); omega
    · omega
  · omega
  · omega

/-- Are there few routes of short paths. -/
def few (l : List S27) : Bool := l.all (fun r => decide (r.f1.f1.length ≤ 100)) && decide (l.length ≤ 30)
theorem rd27 (l : List S27) (i : Nat) (h : i < l.length) : rd_T27 l (i : Int) = l[i] := by simp [rd_T27, List.getD_eq_getElem?_getD, h]
theorem few_l0 (l : List S27) (hw : ∀ i : Nat, i < l.length → wrap64 ((i : Int) + 1) = ((i + 1 : Nat) : Int)) : ∀ (d k i : Nat), i ≤ l.length → l.length - i = d → d < k →
    ridgewayref09_Few.l0 k l i = some ((l.drop i).all (fun r => decide (r.f1.f1.length ≤ 100)) && decide (l.length ≤ 30)) := by
  intro d
  induction d with
  | zero =>
    intro k i hi hd hk
    obtain ⟨k, rfl⟩ : ∃ m, k = m + 1 := ⟨k - 1, by omega⟩
    simp only [ridgewayref09_Few.l0]
    rw [if_neg (by omega), List.drop_eq_nil_of_le (by omega)]
    simp only [List.all_nil, Bool.true_and]
    congr 1
    rw [decide_eq_decide]
    omega
  | succ d ih =>
    intro k i hi hd hk
    obtain ⟨k, rfl⟩ : ∃ m, k = m + 1 := ⟨k - 1, by omega⟩
    have hlt : i < l.length := by omega
    simp only [ridgewayref09_Few.l0]
    rw [if_pos (by omega), if_pos (by omega), rd27 l i hlt, List.drop_eq_getElem_cons hlt, List.all_cons]
    by_cases h : ((l[i].f1.f1.length : Nat) : Int) > 100
    · rw [if_pos h, show decide (l[i].f1.f1.length ≤ 100) = false from decide_eq_false (by omega)]
      rfl
    · rw [if_neg h, hw i hlt, ih k (i + 1) (by omega) (by omega) (by omega), show decide (l[i].f1.f1.length ≤ 100) = true from decide_eq_true (by omega)]
      rfl
theorem few_ev (l : List S27) (h : l.length ≤ 9223372036854775807) : Ev (fun k => ridgewayref09_Few.f k l) (few l) := by
  refine Ev.of (fun k => ridgewayref09_Few.mono l k) (k := l.length + 1) ?_
  have := few_l0 l (wrap_next _ h) l.length (l.length + 1) 0 (by omega) (by omega) (by omega)
  simpa [ridgewayref09_Few.f, few] using this
end Go.Proofs.Ytmbacpnmniemnaa.Pure
