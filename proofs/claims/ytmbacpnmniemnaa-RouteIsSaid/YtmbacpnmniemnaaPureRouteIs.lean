/- That routes are what the document says (the law RouteIs), as a statement over numbers and lists alone: what may be, a node's own, how two compare, whether they are the same and which is the best, as the reference says it, for all routes of which the reference speaks; no further condition. -/
import Derived.Test.YtmbacpnmniemnaaPdRouteIs
import Derived.Test.YtmbacpnmniemnaaPureRoute
namespace Go.Proofs.Ytmbacpnmniemnaa.Pure
open Go.RowKit Go.Proofs.Ytmbacpnmniemnaa.PAll Go.Proofs.YtmbacpnmniemnaaW.PrintWords Go.Proofs.YtmbacpnmniemnaaW.PrintLast
set_option linter.unusedVariables false

theorem less_f (a b : Int) : ridgewayref09_less.f a b = some (cmpI a b) := by
  unfold ridgewayref09_less.f cmpI
  split
  · rfl
  · split <;> rfl
abbrev NextOk (n : Nat) : Prop := ∀ i : Nat, i < n → wrap64 ((i : Int) + 1) = ((i + 1 : Nat) : Int)
theorem next_ok {n : Nat} (h : n ≤ 9223372036854775807) : NextOk n := wrap_next n h
theorem ev_l1 (x : List Int) (hw : NextOk x.length) : ∀ (d i : Nat), i ≤ x.length → x.length - i = d → Ev (fun k => ridgewayref09_Compare.l1 k x i) (firstNZ (x.drop i)) := by
  intro d
  induction d with
  | zero =>
    intro i hi hd
    rw [List.drop_eq_nil_of_le (by omega)]
    exact Ev.step (f := fun _ => some 0) (fun k => by simp only [ridgewayref09_Compare.l1]; rw [if_neg (by omega)]) (Ev.now 0)
  | succ d ih =>
    intro i hi hd
    have hlt : i < x.length := by omega
    rw [List.drop_eq_getElem_cons hlt]
    have hr := rd_get x i hlt
    by_cases h : x[i] = 0
    · rw [firstNZ_zero h]
      exact Ev.step (f := fun k => ridgewayref09_Compare.l1 k x ((i + 1 : Nat) : Int)) (fun k => by simp only [ridgewayref09_Compare.l1]; rw [if_pos (by omega), if_pos (by omega), if_pos (by rw [hr]; exact h), hw i hlt]) (ih (i + 1) (by omega) (by omega))
    · rw [firstNZ_nz h]
      exact Ev.step (f := fun _ => some x[i]) (fun k => by simp only [ridgewayref09_Compare.l1]; rw [if_pos (by omega), if_pos (by omega), if_neg (by rw [hr]; exact h), hr]) (Ev.now _)
theorem small_next {n : Nat} (h : n ≤ 1000) : NextOk n := by intro i hi; unfold wrap64; omega
theorem ev_j1 (acc : List Int) (a b : S27) (h : acc.length ≤ 500) : Ev (fun k => ridgewayref09_Compare.j1 k acc a.f0 a.f1.f0 a.f1.f1 a.f1.f2 a.f1.f3 a.f2 b.f0 b.f1.f0 b.f1.f1 b.f1.f2 b.f1.f3 b.f2) (firstNZ (acc ++ [cmpI a.f1.f2 b.f1.f2, cmpI a.f1.f3 b.f1.f3, cmpI a.f2 b.f2])) := by
  have := ev_l1 (acc ++ [cmpI a.f1.f2 b.f1.f2, cmpI a.f1.f3 b.f1.f3, cmpI a.f2 b.f2]) (small_next (by simp; omega)) _ 0 (Nat.zero_le _) rfl
  rw [List.drop_zero] at this
  refine Ev.step (f := fun k => ridgewayref09_Compare.l1 k (acc ++ [cmpI a.f1.f2 b.f1.f2, cmpI a.f1.f3 b.f1.f3, cmpI a.f2 b.f2]) 0) (fun k => ?_) this
  simp only [ridgewayref09_Compare.j1, less_f, Option.bind_some]
  rw [if_pos (by simp only [List.length_cons, List.length_nil]; omega)]
theorem ev_l0 (a b : S27) (ha : a.f1.f1.length ≤ 100) : ∀ (d : Nat) (acc : List Int) (i : Nat), i ≤ a.f1.f1.length → a.f1.f1.length - i = d → acc.length ≤ 3 + i →
    Ev (fun k => ridgewayref09_Compare.l0 k acc i a.f0 a.f1.f0 a.f1.f1 a.f1.f2 a.f1.f3 a.f2 b.f0 b.f1.f0 b.f1.f1 b.f1.f2 b.f1.f3 b.f2) (firstNZ (acc ++ List.zipWith cmpI (a.f1.f1.drop i) (b.f1.f1.drop i) ++ [cmpI a.f1.f2 b.f1.f2, cmpI a.f1.f3 b.f1.f3, cmpI a.f2 b.f2])) := by
  intro d
  induction d with
  | zero =>
    intro acc i hi hd hl
    rw [show a.f1.f1.drop i = [] from List.drop_eq_nil_of_le (by omega), List.zipWith_nil_left, List.append_nil]
    exact Ev.step (f := fun k => ridgewayref09_Compare.j1 k acc a.f0 a.f1.f0 a.f1.f1 a.f1.f2 a.f1.f3 a.f2 b.f0 b.f1.f0 b.f1.f1 b.f1.f2 b.f1.f3 b.f2) (fun k => by simp only [ridgewayref09_Compare.l0]; rw [if_neg (by omega)]) (ev_j1 acc a b (by omega))
  | succ d ih =>
    intro acc i hi hd hl
    have hlt : i < a.f1.f1.length := by omega
    by_cases hb : i < b.f1.f1.length
    · rw [List.drop_eq_getElem_cons hlt, List.drop_eq_getElem_cons hb, List.zipWith_cons_cons]
      have := ih (acc ++ [cmpI a.f1.f1[i] b.f1.f1[i]]) (i + 1) (by omega) (by omega) (by simp; omega)
      rw [List.append_assoc acc, List.singleton_append] at this
      refine Ev.step (f := fun k => ridgewayref09_Compare.l0 k (acc ++ [cmpI a.f1.f1[i] b.f1.f1[i]]) ((i + 1 : Nat) : Int) a.f0 a.f1.f0 a.f1.f1 a.f1.f2 a.f1.f3 a.f2 b.f0 b.f1.f0 b.f1.f1 b.f1.f2 b.f1.f3 b.f2) (fun k => ?_) this
      simp only [ridgewayref09_Compare.l0]
      rw [if_pos (by omega), if_pos (by omega), if_pos (by omega), rd_get _ _ hlt, rd_get _ _ hb, less_f]
      simp only [Option.bind_some]
      rw [if_pos (by omega), small_next (n := 100) (by omega) i (by omega)]
    · have e : b.f1.f1.drop i = [] := List.drop_eq_nil_of_le (by omega)
      rw [e, List.zipWith_nil_right, List.append_nil]
      exact Ev.step (f := fun k => ridgewayref09_Compare.j1 k acc a.f0 a.f1.f0 a.f1.f1 a.f1.f2 a.f1.f3 a.f2 b.f0 b.f1.f0 b.f1.f1 b.f1.f2 b.f1.f3 b.f2) (fun k => by simp only [ridgewayref09_Compare.l0]; rw [if_pos (by omega), if_neg (by omega)]) (ev_j1 acc a b (by omega))
theorem firstNZ_zip : ∀ (a b t : List Int), a.length = b.length → firstNZ (List.zipWith cmpI a b ++ t) = if cmpL a b = 0 then firstNZ t else cmpL a b
  | [], [], t, _ => by simp [cmpL]
  | [], _ :: _, _, h => by simp at h
  | _ :: _, [], _, h => by simp at h
  | x :: a, y :: b, t, h => by
    have ih := firstNZ_zip a b t (by simpa using h)
    simp only [List.zipWith_cons_cons, List.cons_append, cmpL]
    by_cases hx : cmpI x y = 0
    · rw [firstNZ_zero hx, ih]
      simp only [if_pos hx]
    · rw [firstNZ_nz hx]
      simp only [if_neg hx]
theorem firstNZ_cons (c : Int) (l : List Int) : firstNZ (c :: l) = if c = 0 then firstNZ l else c := rfl
theorem ev_cmp (a b : S27) (ha : a.f1.f1.length ≤ 100) : Ev (fun k => ridgewayref09_Compare.f k a.f0 a.f1.f0 a.f1.f1 a.f1.f2 a.f1.f3 a.f2 b.f0 b.f1.f0 b.f1.f1 b.f1.f2 b.f1.f3 b.f2) (cmpR a b) := by
  have := ev_l0 a b ha _ [cmpI b.f0 a.f0, cmpI (a.f1.f1.length : Int) (b.f1.f1.length : Int), cmpI a.f1.f0 b.f1.f0] 0 (Nat.zero_le _) rfl (by simp)
  have e : firstNZ ([cmpI b.f0 a.f0, cmpI (a.f1.f1.length : Int) (b.f1.f1.length : Int), cmpI a.f1.f0 b.f1.f0] ++ List.zipWith cmpI (a.f1.f1.drop 0) (b.f1.f1.drop 0) ++ [cmpI a.f1.f2 b.f1.f2, cmpI a.f1.f3 b.f1.f3, cmpI a.f2 b.f2]) = cmpR a b := by
    simp only [List.drop_zero, List.cons_append, List.nil_append]
    show _ = firstNZ [cmpI b.f0 a.f0, cmpI (a.f1.f1.length : Int) (b.f1.f1.length : Int), cmpI a.f1.f0 b.f1.f0, cmpL a.f1.f1 b.f1.f1, cmpI a.f1.f2 b.f1.f2, cmpI a.f1.f3 b.f1.f3, cmpI a.f2 b.f2]
    rw [firstNZ_cons, firstNZ_cons (cmpI b.f0 a.f0) [_, _, _, _, _, _]]
    congr 1
    rw [firstNZ_cons, firstNZ_cons _ [_, _, _, _, _]]
    by_cases hl : cmpI (a.f1.f1.length : Int) (b.f1.f1.length : Int) = 0
    · rw [if_pos hl, if_pos hl, firstNZ_cons, firstNZ_cons _ [_, _, _, _]]
      congr 1
      have := cmpI_eq hl
      rw [firstNZ_zip _ _ _ (by omega), firstNZ_cons (cmpL _ _)]
    · rw [if_neg hl, if_neg hl]
  rw [e] at this
  refine Ev.congr (fun k => ?_) this
  simp only [ridgewayref09_Compare.f, less_f, Option.bind_some]
  rfl
theorem cmpR_zero (a b : S27) : cmpR a b = 0 ↔ a.f0 = b.f0 ∧ a.f1.f1.length = b.f1.f1.length ∧ a.f1.f0 = b.f1.f0 ∧ a.f1.f1 = b.f1.f1 ∧ a.f1.f2 = b.f1.f2 ∧ a.f1.f3 = b.f1.f3 ∧ a.f2 = b.f2 := by
  constructor
  · intro h
    have e : cmpR a b = firstNZ [cmpI b.f0 a.f0, cmpI (a.f1.f1.length : Int) (b.f1.f1.length : Int), cmpI a.f1.f0 b.f1.f0, cmpL a.f1.f1 b.f1.f1, cmpI a.f1.f2 b.f1.f2, cmpI a.f1.f3 b.f1.f3, cmpI a.f2 b.f2] := rfl
    rw [h] at e
    have step : ∀ {c : Int} {l : List Int}, 0 = firstNZ (c :: l) → c = 0 ∧ 0 = firstNZ l := by
      intro c l hc
      rw [firstNZ_cons] at hc
      by_cases h0 : c = 0
      · rw [if_pos h0] at hc; exact ⟨h0, hc⟩
      · rw [if_neg h0] at hc; exact absurd hc.symm h0
    obtain ⟨h1, e⟩ := step e
    obtain ⟨h2, e⟩ := step e
    obtain ⟨h3, e⟩ := step e
    obtain ⟨h4, e⟩ := step e
    obtain ⟨h5, e⟩ := step e
    obtain ⟨h6, e⟩ := step e
    obtain ⟨h7, e⟩ := step e
    have := cmpI_eq h2
    exact ⟨(cmpI_eq h1).symm, by omega, cmpI_eq h3, cmpL_eq h4, cmpI_eq h5, cmpI_eq h6, cmpI_eq h7⟩
  · rintro ⟨h1, h2, h3, h4, h5, h6, h7⟩
    show firstNZ [_, _, _, _, _, _, _] = 0
    rw [h1, h3, h4, h5, h6, h7]
    simp [firstNZ, cmpI_self, cmpL_self]
theorem ev_path (x y : List Int) (a0 a2 a3 b0 b2 b3 : Int) (hl : x.length = y.length) (hw : NextOk x.length) : ∀ (d i : Nat), i ≤ x.length → x.length - i = d →
    Ev (fun k => ridgewayref07_SamePath.l0 k i a0 x a2 a3 b0 y b2 b3) (decide (x.drop i = y.drop i)) := by
  intro d
  induction d with
  | zero =>
    intro i hi hd
    rw [decide_eq_true (by rw [List.drop_eq_nil_of_le (by omega), List.drop_eq_nil_of_le (by omega)])]
    exact Ev.step (f := fun _ => some true) (fun k => by simp only [ridgewayref07_SamePath.l0]; rw [if_neg (by omega)]) (Ev.now _)
  | succ d ih =>
    intro i hi hd
    have hlt : i < x.length := by omega
    have hlt' : i < y.length := by omega
    rw [List.drop_eq_getElem_cons hlt, List.drop_eq_getElem_cons hlt']
    by_cases h : x[i] = y[i]
    · have e : decide (x[i] :: x.drop (i + 1) = y[i] :: y.drop (i + 1)) = decide (x.drop (i + 1) = y.drop (i + 1)) := by rw [decide_eq_decide, List.cons.injEq]; exact ⟨fun h' => h'.2, fun h' => ⟨h, h'⟩⟩
      rw [e]
      exact Ev.step (f := fun k => ridgewayref07_SamePath.l0 k ((i + 1 : Nat) : Int) a0 x a2 a3 b0 y b2 b3) (fun k => by simp only [ridgewayref07_SamePath.l0]; rw [if_pos (by omega), if_pos (by omega), if_pos (by omega), rd_get _ _ hlt, rd_get _ _ hlt', if_pos h, hw i hlt]) (ih (i + 1) (by omega) (by omega))
    · rw [decide_eq_false (by rw [List.cons.injEq]; exact fun h' => h h'.1)]
      exact Ev.step (f := fun _ => some false) (fun k => by simp only [ridgewayref07_SamePath.l0]; rw [if_pos (by omega), if_pos (by omega), if_pos (by omega), rd_get _ _ hlt, rd_get _ _ hlt', if_neg h]) (Ev.now _)
theorem ev_same (a b : S27) (ha : a.f1.f1.length ≤ 9223372036854775807) : Ev (fun k => ridgewayref09_Same.f k a.f0 a.f1.f0 a.f1.f1 a.f1.f2 a.f1.f3 a.f2 b.f0 b.f1.f0 b.f1.f1 b.f1.f2 b.f1.f3 b.f2) (cmpR a b == 0) := by
  by_cases hz : cmpR a b = 0
  · obtain ⟨h1, h2, h3, h4, h5, h6, h7⟩ := (cmpR_zero a b).mp hz
    rw [show (cmpR a b == 0) = true from beq_iff_eq.mpr hz]
    have hp := ev_path a.f1.f1 b.f1.f1 a.f1.f0 a.f1.f2 a.f1.f3 b.f1.f0 b.f1.f2 b.f1.f3 h2 (next_ok ha) _ 0 (Nat.zero_le _) rfl
    rw [decide_eq_true (by rw [h4])] at hp
    have hj : Ev (fun k => ridgewayref07_SamePath.j0 k ((a.f1.f1.length : Int) != (b.f1.f1.length : Int)) a.f1.f0 a.f1.f1 a.f1.f2 a.f1.f3 b.f1.f0 b.f1.f1 b.f1.f2 b.f1.f3) true :=
      Ev.step (f := fun k => ridgewayref07_SamePath.l0 k 0 a.f1.f0 a.f1.f1 a.f1.f2 a.f1.f3 b.f1.f0 b.f1.f1 b.f1.f2 b.f1.f3) (fun k => by simp only [ridgewayref07_SamePath.j0]; rw [if_neg (by rw [h2]; simp)]) hp
    refine Ev.congr (fun k => ?_) hj
    simp only [ridgewayref09_Same.f, ridgewayref07_SamePath.f]
    rw [if_pos h1, if_pos h7, if_pos h3, if_pos h5, if_pos h6]
    simp
  · rw [show (cmpR a b == 0) = false from beq_eq_false_iff_ne.mpr hz]
    by_cases h1 : a.f0 = b.f0
    · by_cases h7 : a.f2 = b.f2
      · by_cases h3 : a.f1.f0 = b.f1.f0 ∧ a.f1.f2 = b.f1.f2 ∧ a.f1.f3 = b.f1.f3
        · obtain ⟨h3, h5, h6⟩ := h3
          by_cases h2 : a.f1.f1.length = b.f1.f1.length
          · have hp := ev_path a.f1.f1 b.f1.f1 a.f1.f0 a.f1.f2 a.f1.f3 b.f1.f0 b.f1.f2 b.f1.f3 h2 (next_ok ha) _ 0 (Nat.zero_le _) rfl
            rw [decide_eq_false (by intro h4; exact hz ((cmpR_zero a b).mpr ⟨h1, h2, h3, by simpa using h4, h5, h6, h7⟩))] at hp
            have hj : Ev (fun k => ridgewayref07_SamePath.j0 k ((a.f1.f1.length : Int) != (b.f1.f1.length : Int)) a.f1.f0 a.f1.f1 a.f1.f2 a.f1.f3 b.f1.f0 b.f1.f1 b.f1.f2 b.f1.f3) false :=
              Ev.step (f := fun k => ridgewayref07_SamePath.l0 k 0 a.f1.f0 a.f1.f1 a.f1.f2 a.f1.f3 b.f1.f0 b.f1.f1 b.f1.f2 b.f1.f3) (fun k => by simp only [ridgewayref07_SamePath.j0]; rw [if_neg (by rw [h2]; simp)]) hp
            refine Ev.congr (fun k => ?_) hj
            simp only [ridgewayref09_Same.f, ridgewayref07_SamePath.f]
            rw [if_pos h1, if_pos h7, if_pos h3, if_pos h5, if_pos h6]
            simp
          · have hj : Ev (fun k => ridgewayref07_SamePath.j0 k ((a.f1.f1.length : Int) != (b.f1.f1.length : Int)) a.f1.f0 a.f1.f1 a.f1.f2 a.f1.f3 b.f1.f0 b.f1.f1 b.f1.f2 b.f1.f3) false :=
              Ev.step (f := fun _ => some false) (fun k => by simp only [ridgewayref07_SamePath.j0]; rw [if_pos (by simp; omega)]) (Ev.now _)
            refine Ev.congr (fun k => ?_) hj
            simp only [ridgewayref09_Same.f, ridgewayref07_SamePath.f]
            rw [if_pos h1, if_pos h7, if_pos h3, if_pos h5, if_pos h6]
            simp
        · have hj : Ev (fun k => ridgewayref07_SamePath.j0 k true a.f1.f0 a.f1.f1 a.f1.f2 a.f1.f3 b.f1.f0 b.f1.f1 b.f1.f2 b.f1.f3) false :=
            Ev.step (f := fun _ => some false) (fun k => by simp only [ridgewayref07_SamePath.j0]; rw [if_pos trivial]) (Ev.now _)
          refine Ev.congr (fun k => ?_) hj
          simp only [ridgewayref09_Same.f, ridgewayref07_SamePath.f]
          rw [if_pos h1, if_pos h7]
          by_cases e1 : a.f1.f0 = b.f1.f0
          · rw [if_pos e1]
            by_cases e2 : a.f1.f2 = b.f1.f2
            · rw [if_pos e2, if_neg (fun e3 => h3 ⟨e1, e2, e3⟩)]
              simp
            · rw [if_neg e2]
              simp
          · rw [if_neg e1]
            simp
      · refine Ev.congr (fun k => ?_) (Ev.now false)
        simp only [ridgewayref09_Same.f]
        rw [if_pos h1, if_neg h7]
    · refine Ev.congr (fun k => ?_) (Ev.now false)
      simp only [ridgewayref09_Same.f]
      rw [if_neg h1]
/-- May an AS be. -/
def asOk (a : Int) : Bool := decide (1 ≤ a) && decide (a ≤ 4294967295)
theorem asBad_f (a : Int) : attr_Sane_1.f a = some (!asOk a) := by
  unfold attr_Sane_1.f asOk
  by_cases h : a < 1
  · rw [if_pos h, decide_eq_false (by omega)]; rfl
  · rw [if_neg h, decide_eq_true (show 1 ≤ a by omega), Bool.true_and]
    congr 1
    by_cases h2 : a > 4294967295
    · rw [decide_eq_true h2, decide_eq_false (by omega)]; rfl
    · rw [decide_eq_false h2, decide_eq_true (by omega)]; rfl
theorem ev_index (x : List Int) (hw : NextOk x.length) : ∀ (d i : Nat), i ≤ x.length → x.length - i = d → ∃ r : Int, Ev (fun k => slices_IndexFunc_int_int_at_attr_Sane_1.l0 k x (x.length : Int) i) r ∧ decide (r ≥ 0) = !(x.drop i).all asOk := by
  intro d
  induction d with
  | zero =>
    intro i hi hd
    refine ⟨-1, Ev.step (f := fun _ => some (-1)) (fun k => by simp only [slices_IndexFunc_int_int_at_attr_Sane_1.l0]; rw [if_neg (by omega)]) (Ev.now _), ?_⟩
    rw [List.drop_eq_nil_of_le (by omega)]
    rfl
  | succ d ih =>
    intro i hi hd
    have hlt : i < x.length := by omega
    rw [List.drop_eq_getElem_cons hlt, List.all_cons]
    cases h : asOk x[i] with
    | true =>
      obtain ⟨r, hr, he⟩ := ih (i + 1) (by omega) (by omega)
      refine ⟨r, Ev.step (f := fun k => slices_IndexFunc_int_int_at_attr_Sane_1.l0 k x (x.length : Int) ((i + 1 : Nat) : Int)) (fun k => ?_) hr, by rw [he, Bool.true_and]⟩
      simp only [slices_IndexFunc_int_int_at_attr_Sane_1.l0]
      rw [if_pos (by omega), if_pos (by omega), if_pos (by omega), rd_get _ _ hlt, asBad_f, h, hw i hlt]
      rfl
    | false =>
      refine ⟨i, Ev.step (f := fun _ => some (i : Int)) (fun k => ?_) (Ev.now _), by rw [decide_eq_true (by omega)]; rfl⟩
      simp only [slices_IndexFunc_int_int_at_attr_Sane_1.l0]
      rw [if_pos (by omega), if_pos (by omega), if_pos (by omega), rd_get _ _ hlt, asBad_f, h]
      rfl
/-- May the numbers beside a path's ASes be. -/
def restOk (n o h t : Int) : Bool := decide (n ≤ 255) && (decide (o ≥ 0) && (decide (o ≤ 2) && (decide (h > 0) && (decide (h ≤ 4294967295) && (decide (t ≥ 0) && decide (t ≤ 4294967295))))))
theorem ev_attr (x : List Int) (o h t : Int) (hw : NextOk x.length) : Ev (fun k => attr_Sane.f k o x h t) (x.all asOk && restOk x.length o h t) := by
  obtain ⟨r, hr, he⟩ := ev_index x hw _ 0 (Nat.zero_le _) rfl
  rw [List.drop_zero] at he
  have h1 : Ev (fun k => slices_ContainsFunc_int_int_at_attr_Sane_1.f k x) (!x.all asOk) := by
    rw [← he]
    exact Ev.bind (f := fun _ (q : Int) => some (decide (q ≥ 0))) hr (Ev.now _)
  unfold attr_Sane.f
  refine Ev.bind h1 ?_
  cases x.all asOk with
  | false => exact Ev.now _
  | true =>
    refine Ev.congr (fun k => ?_) (Ev.now _)
    simp only [restOk, Bool.true_and, Bool.not_true, Bool.false_eq_true, if_false]
    repeat' split
    all_goals first | (simp_all; done) | (simp_all; omega)
theorem ev_ref7 (x : List Int) (o h t : Int) (hw : NextOk x.length) : ∀ (d i : Nat), i ≤ x.length → x.length - i = d → Ev (fun k => ridgewayref07_Sane.l0 k i o x h t) ((x.drop i).all asOk && restOk x.length o h t) := by
  intro d
  induction d with
  | zero =>
    intro i hi hd
    rw [List.drop_eq_nil_of_le (by omega)]
    refine Ev.step (f := fun _ => some (restOk x.length o h t)) (fun k => ?_) (Ev.now _)
    simp only [ridgewayref07_Sane.l0, restOk]
    rw [if_neg (by omega)]
    by_cases e1 : o ≥ 0 <;> by_cases e2 : o ≤ 2 <;> by_cases e3 : (x.length : Int) ≤ 255 <;> by_cases e4 : h ≥ 1 <;> simp [e1, e2, e3, e4, show (h > 0) = (h ≥ 1) from propext ⟨fun _ => by omega, fun _ => by omega⟩]
    all_goals (repeat' split) <;> first | (simp_all; done) | (simp_all; omega)
  | succ d ih =>
    intro i hi hd
    have hlt : i < x.length := by omega
    rw [List.drop_eq_getElem_cons hlt, List.all_cons]
    cases h' : asOk x[i] with
    | true =>
      simp only [asOk, Bool.and_eq_true, decide_eq_true_eq] at h'
      rw [Bool.true_and]
      refine Ev.step (f := fun k => ridgewayref07_Sane.l0 k ((i + 1 : Nat) : Int) o x h t) (fun k => ?_) (ih (i + 1) (by omega) (by omega))
      simp only [ridgewayref07_Sane.l0]
      rw [if_pos (by omega), if_pos (by omega), rd_get _ _ hlt, if_neg (by omega), if_neg (by omega), hw i hlt]
    | false =>
      simp only [asOk, Bool.and_eq_false_iff, decide_eq_false_iff_not] at h'
      refine Ev.step (f := fun _ => some false) (fun k => ?_) (Ev.now _)
      simp only [ridgewayref07_Sane.l0]
      rw [if_pos (by omega), if_pos (by omega), rd_get _ _ hlt]
      by_cases e : x[i] < 1
      · rw [if_pos e]
      · rw [if_neg e, if_pos (by omega)]
theorem ev_sane (a : S27) (ha : a.f1.f1.length ≤ 9223372036854775807) : ∃ v, Ev (fun k => route_Sane.f k a.f0 a.f1.f0 a.f1.f1 a.f1.f2 a.f1.f3 a.f2) v ∧ Ev (fun k => ridgewayref09_Sane.f k a.f0 a.f1.f0 a.f1.f1 a.f1.f2 a.f1.f3 a.f2) v := by
  have hw := next_ok ha
  have h1 := ev_attr a.f1.f1 a.f1.f0 a.f1.f2 a.f1.f3 hw
  have h2 : Ev (fun k => ridgewayref07_Sane.f k a.f1.f0 a.f1.f1 a.f1.f2 a.f1.f3) (a.f1.f1.all asOk && restOk a.f1.f1.length a.f1.f0 a.f1.f2 a.f1.f3) := ev_ref7 a.f1.f1 a.f1.f0 a.f1.f2 a.f1.f3 hw _ 0 (Nat.zero_le _) rfl
  generalize (a.f1.f1.all asOk && restOk a.f1.f1.length a.f1.f0 a.f1.f2 a.f1.f3) = v at h1 h2
  have none1 : Ev (fun k => route_Sane.j0 k true a.f0 a.f1.f0 a.f1.f1 a.f1.f2 a.f1.f3 a.f2) false := Ev.step (f := fun _ => some false) (fun k => by simp only [route_Sane.j0]; rw [if_pos trivial]) (Ev.now _)
  have none2 : Ev (fun k => ridgewayref09_Sane.j0 k true a.f0 a.f1.f0 a.f1.f1 a.f1.f2 a.f1.f3 a.f2) false := Ev.step (f := fun _ => some false) (fun k => by simp only [ridgewayref09_Sane.j0]; rw [if_pos trivial]) (Ev.now _)
  cases v with
  | false => exact ⟨false, Ev.bind h1 none1, Ev.bind h2 none2⟩
  | true =>
    by_cases hl : (a.f1.f1.length : Int) > 32
    · have e1 : Ev (fun k => route_Sane.j0 k (decide ((a.f1.f1.length : Int) > 32)) a.f0 a.f1.f0 a.f1.f1 a.f1.f2 a.f1.f3 a.f2) false := by rw [decide_eq_true hl]; exact none1
      have e2 : Ev (fun k => ridgewayref09_Sane.j0 k (decide ((a.f1.f1.length : Int) > 32)) a.f0 a.f1.f0 a.f1.f1 a.f1.f2 a.f1.f3 a.f2) false := by rw [decide_eq_true hl]; exact none2
      exact ⟨false, Ev.bind h1 e1, Ev.bind h2 e2⟩
    · have key : ∃ v, (∀ k, route_Sane.j0 (k + 1) (decide ((a.f1.f1.length : Int) > 32)) a.f0 a.f1.f0 a.f1.f1 a.f1.f2 a.f1.f3 a.f2 = some v) ∧ ∀ k, ridgewayref09_Sane.j0 (k + 1) (decide ((a.f1.f1.length : Int) > 32)) a.f0 a.f1.f0 a.f1.f1 a.f1.f2 a.f1.f3 a.f2 = some v := by
        rw [decide_eq_false hl]
        by_cases hf : a.f2 = -1
        · let o : S27 := ⟨400, ⟨0, [], a.f1.f2, 0⟩, -1⟩
          have hs : route_Same.f a.f0 a.f1.f0 a.f1.f1 a.f1.f2 a.f1.f3 a.f2 400 0 [] a.f1.f2 0 (-1) = some (cmpR a o == 0) := rfl
          refine ⟨cmpR a o == 0, fun k => ?_, fun k => ?_⟩
          · simp only [route_Sane.j0]
            rw [if_neg (by simp), if_pos hf]
            simp only [route_Own.f, Option.bind_some, hs]
          · simp only [ridgewayref09_Sane.j0]
            rw [if_neg (by simp), if_pos hf]
            have hz := cmpR_zero a o
            have hn : (a.f1.f1.length : Int) = 0 ↔ a.f1.f1 = [] := by rw [← List.length_eq_zero_iff]; omega
            by_cases z : cmpR a o = 0
            · obtain ⟨z1, -, z3, z4, z5, z6, z7⟩ := hz.mp z
              rw [show (cmpR a o == 0) = true from beq_iff_eq.mpr z, if_pos z1, if_pos (hn.mpr z4), if_pos z3, z6]
              rfl
            · rw [show (cmpR a o == 0) = false from beq_eq_false_iff_ne.mpr z]
              by_cases z1 : a.f0 = 400
              · rw [if_pos z1]
                by_cases z4 : (a.f1.f1.length : Int) = 0
                · rw [if_pos z4]
                  by_cases z3 : a.f1.f0 = 0
                  · rw [if_pos z3, show (a.f1.f3 == 0) = false from beq_eq_false_iff_ne.mpr (fun z6 => z (hz.mpr ⟨z1, by rw [hn.mp z4], z3, hn.mp z4, rfl, z6, hf⟩))]
                  · rw [if_neg z3]
                · rw [if_neg z4]
              · rw [if_neg z1]
        · by_cases h3 : a.f2 ≥ 0
          · by_cases h4 : a.f2 ≤ 7
            · by_cases h5 : a.f0 > 0
              · refine ⟨decide (a.f0 < 400), fun k => ?_, fun k => ?_⟩
                · simp only [route_Sane.j0]; rw [if_neg (by simp), if_neg hf, if_pos h3, if_pos h4, if_pos h5]
                · simp only [ridgewayref09_Sane.j0]; rw [if_neg (by simp), if_neg hf, if_pos h3, if_pos h4, if_pos (by omega)]; congr 1; rw [decide_eq_decide]; omega
              · refine ⟨false, fun k => ?_, fun k => ?_⟩
                · simp only [route_Sane.j0]; rw [if_neg (by simp), if_neg hf, if_pos h3, if_pos h4, if_neg h5]
                · simp only [ridgewayref09_Sane.j0]; rw [if_neg (by simp), if_neg hf, if_pos h3, if_pos h4, if_neg (by omega)]
            · refine ⟨false, fun k => ?_, fun k => ?_⟩
              · simp only [route_Sane.j0]; rw [if_neg (by simp), if_neg hf, if_pos h3, if_neg h4]
              · simp only [ridgewayref09_Sane.j0]; rw [if_neg (by simp), if_neg hf, if_pos h3, if_neg h4]
          · refine ⟨false, fun k => ?_, fun k => ?_⟩
            · simp only [route_Sane.j0]; rw [if_neg (by simp), if_neg hf, if_neg h3]
            · simp only [ridgewayref09_Sane.j0]; rw [if_neg (by simp), if_neg hf, if_neg h3]
      obtain ⟨v, k1, k2⟩ := key
      exact ⟨v, Ev.bind h1 (Ev.step k1 (Ev.now v)), Ev.bind h2 (Ev.step k2 (Ev.now v))⟩
/-- The best one from here on. -/
def bestFrom (m : S27) : List S27 → S27
  | [] => m
  | x :: l => if cmpR x m < 0 then bestFrom x l else bestFrom m l
abbrev tup (m : S27) : Int × Int × List Int × Int × Int × Int := (m.f0, m.f1.f0, m.f1.f1, m.f1.f2, m.f1.f3, m.f2)
theorem ev_best (l : List S27) (hw : NextOk l.length) : ∀ (d i : Nat) (m : S27), i ≤ l.length → l.length - i = d → Ev (fun k => api_Route_at_route_Compare.l0 k l i m.f0 m.f1.f0 m.f1.f1 m.f1.f2 m.f1.f3 m.f2) (tup (bestFrom m (l.drop i))) := by
  intro d
  induction d with
  | zero =>
    intro i m hi hd
    rw [List.drop_eq_nil_of_le (by omega)]
    exact Ev.step (f := fun _ => some (tup m)) (fun k => by simp only [api_Route_at_route_Compare.l0]; rw [if_neg (by omega)]) (Ev.now _)
  | succ d ih =>
    intro i m hi hd
    have hlt : i < l.length := by omega
    rw [List.drop_eq_getElem_cons hlt]
    have hc : route_Compare.f l[i].f0 l[i].f1.f0 l[i].f1.f1 l[i].f1.f2 l[i].f1.f3 l[i].f2 m.f0 m.f1.f0 m.f1.f1 m.f1.f2 m.f1.f3 m.f2 = some (cmpR l[i] m) := rfl
    simp only [bestFrom]
    by_cases h : cmpR l[i] m < 0
    · rw [if_pos h]
      refine Ev.step (fun k => ?_) (ih (i + 1) l[i] (by omega) (by omega))
      simp only [api_Route_at_route_Compare.l0]
      rw [if_pos (by omega), if_pos (by omega), rd27 l i hlt, hc]
      simp only [Option.bind_some]
      rw [if_pos h, hw i hlt]
    · rw [if_neg h]
      refine Ev.step (fun k => ?_) (ih (i + 1) m (by omega) (by omega))
      simp only [api_Route_at_route_Compare.l0]
      rw [if_pos (by omega), if_pos (by omega), rd27 l i hlt, hc]
      simp only [Option.bind_some]
      rw [if_neg h, hw i hlt]
theorem ev_refBest (l : List S27) (hw : NextOk l.length) (hs : ∀ x ∈ l, x.f1.f1.length ≤ 100) : ∀ (d i : Nat) (m : S27), i ≤ l.length → l.length - i = d → Ev (fun k => ridgewayref09_Best.l0 k l i m.f0 m.f1.f0 m.f1.f1 m.f1.f2 m.f1.f3 m.f2) ((bestFrom m (l.drop i)).f0, (bestFrom m (l.drop i)).f1.f0, (bestFrom m (l.drop i)).f1.f1, (bestFrom m (l.drop i)).f1.f2, (bestFrom m (l.drop i)).f1.f3, (bestFrom m (l.drop i)).f2, true) := by
  intro d
  induction d with
  | zero =>
    intro i m hi hd
    rw [List.drop_eq_nil_of_le (by omega)]
    exact Ev.step (f := fun _ => some (m.f0, m.f1.f0, m.f1.f1, m.f1.f2, m.f1.f3, m.f2, true)) (fun k => by simp only [ridgewayref09_Best.l0]; rw [if_neg (by omega)]) (Ev.now _)
  | succ d ih =>
    intro i m hi hd
    have hlt : i < l.length := by omega
    rw [List.drop_eq_getElem_cons hlt]
    have hc := ev_cmp l[i] m (hs _ (List.getElem_mem hlt))
    simp only [bestFrom]
    by_cases h : cmpR l[i] m < 0
    · rw [if_pos h]
      refine Ev.step (fun k => ?_) (Ev.bind (f := fun k (q : Int) => if q < 0 then ridgewayref09_Best.l0 k l ((i + 1 : Nat) : Int) l[i].f0 l[i].f1.f0 l[i].f1.f1 l[i].f1.f2 l[i].f1.f3 l[i].f2 else ridgewayref09_Best.l0 k l ((i + 1 : Nat) : Int) m.f0 m.f1.f0 m.f1.f1 m.f1.f2 m.f1.f3 m.f2) hc (Ev.congr (fun k => if_pos h) (ih (i + 1) l[i] (by omega) (by omega))))
      simp only [ridgewayref09_Best.l0]
      rw [if_pos (by omega), if_pos (by omega), rd27 l i hlt, hw i hlt]
    · rw [if_neg h]
      refine Ev.step (fun k => ?_) (Ev.bind (f := fun k (q : Int) => if q < 0 then ridgewayref09_Best.l0 k l ((i + 1 : Nat) : Int) l[i].f0 l[i].f1.f0 l[i].f1.f1 l[i].f1.f2 l[i].f1.f3 l[i].f2 else ridgewayref09_Best.l0 k l ((i + 1 : Nat) : Int) m.f0 m.f1.f0 m.f1.f1 m.f1.f2 m.f1.f3 m.f2) hc (Ev.congr (fun k => if_neg h) (ih (i + 1) m (by omega) (by omega))))
      simp only [ridgewayref09_Best.l0]
      rw [if_pos (by omega), if_pos (by omega), rd27 l i hlt, hw i hlt]
theorem same_self (a : S27) : (cmpR a a == 0) = true := beq_iff_eq.mpr (cmpR_self a)
theorem few_all {l : List S27} (h : few l = true) : (∀ x ∈ l, x.f1.f1.length ≤ 100) ∧ l.length ≤ 30 := by
  unfold few at h
  rw [Bool.and_eq_true, List.all_eq_true] at h
  exact ⟨fun x hx => of_decide_eq_true (h.1 x hx), of_decide_eq_true h.2⟩
theorem ev_both (l : List S27) (h : few l = true) : ∃ (m : S27) (b : Bool), Ev (fun k => route_Best.f k l) (m.f0, m.f1.f0, m.f1.f1, m.f1.f2, m.f1.f3, m.f2, b) ∧ Ev (fun k => ridgewayref09_Best.f k l) (m.f0, m.f1.f0, m.f1.f1, m.f1.f2, m.f1.f3, m.f2, b) ∧ m.f1.f1.length ≤ 100 := by
  obtain ⟨hs, hn⟩ := few_all h
  cases l with
  | nil => exact ⟨⟨0, ⟨0, [], 0, 0⟩, 0⟩, false, Ev.congr (fun k => by simp [route_Best.f]) (Ev.now _), Ev.congr (fun k => by simp [ridgewayref09_Best.f]) (Ev.now _), by simp⟩
  | cons x t =>
    have hw : NextOk (x :: t).length := small_next (by omega)
    have h1 := ev_best (x :: t) hw _ 1 x (by simp) rfl
    have h2 := ev_refBest (x :: t) hw hs _ 1 x (by simp) rfl
    have hlen : ¬ (((x :: t).length : Int) = 0) := by simp only [List.length_cons]; omega
    have hx : rd_T27 (x :: t) 0 = x := rfl
    have hm : (bestFrom x ((x :: t).drop 1)).f1.f1.length ≤ 100 := by
      have : ∀ (r : List S27) (m : S27), m.f1.f1.length ≤ 100 → (∀ y ∈ r, y.f1.f1.length ≤ 100) → (bestFrom m r).f1.f1.length ≤ 100 := by
        intro r
        induction r with
        | nil => intro m hm _; exact hm
        | cons y r ih =>
          intro m hm hr
          simp only [bestFrom]
          split
          · exact ih y (hr y (by simp)) (fun z hz => hr z (by simp [hz]))
          · exact ih m hm (fun z hz => hr z (by simp [hz]))
      exact this _ x (hs x (by simp)) (fun y hy => hs y (by simp at hy; simp [hy]))
    refine ⟨bestFrom x ((x :: t).drop 1), true, ?_, ?_, hm⟩
    · have h3 : Ev (fun k => api_Route_at_route_Compare.f k (x :: t)) (tup (bestFrom x ((x :: t).drop 1))) := by
        refine Ev.congr (fun k => ?_) h1
        simp only [api_Route_at_route_Compare.f]
        rw [if_neg (by simp only [List.length_cons]; omega), if_pos (by simp only [List.length_cons]; omega), hx]
        rfl
      refine Ev.congr (fun k => ?_) (Ev.bind (f := fun _ (b : Int × Int × List Int × Int × Int × Int) => some (b.1, b.2.1, b.2.2.1, b.2.2.2.1, b.2.2.2.2.1, b.2.2.2.2.2, true)) h3 (Ev.now _))
      simp only [route_Best.f]
      rw [if_neg hlen]
    · refine Ev.congr (fun k => ?_) h2
      simp only [ridgewayref09_Best.f]
      rw [if_neg hlen, if_pos (by simp only [List.length_cons]; omega), hx]
      rfl
theorem ev_tail (l : List S27) (a : S27) (hop : Int) (h : few l = true) (ha : a.f1.f1.length ≤ 100) : Ev (fun k => (route_Best.f k l).bind fun bt247 => ((ridgewayref09_Best.f k l).bind fun bt257 => (if true = true then (if (bt247.2.2.2.2.2.2 == bt257.2.2.2.2.2.2) = true then ((ridgewayref09_Same.f k bt247.1 bt247.2.1 bt247.2.2.1 bt247.2.2.2.1 bt247.2.2.2.2.1 bt247.2.2.2.2.2.1 bt257.1 bt257.2.1 bt257.2.2.1 bt257.2.2.2.1 bt257.2.2.2.2.1 bt257.2.2.2.2.2.1).bind fun t267 => (if t267 = true then ((route_Sane.f k a.f0 a.f1.f0 a.f1.f1 a.f1.f2 a.f1.f3 a.f2).bind fun t268 => ((ridgewayref09_Sane.f k a.f0 a.f1.f0 a.f1.f1 a.f1.f2 a.f1.f3 a.f2).bind fun t269 => (if (t268 == t269) = true then ((route_Own.f hop).bind fun bt270 => ((ridgewayref09_Own.f hop).bind fun bt278 => ((ridgewayref09_Same.f k bt270.1 bt270.2.1 bt270.2.2.1 bt270.2.2.2.1 bt270.2.2.2.2.1 bt270.2.2.2.2.2 bt278.1 bt278.2.1 bt278.2.2.1 bt278.2.2.2.1 bt278.2.2.2.2.1 bt278.2.2.2.2.2).bind fun t286 => (some t286)))) else (none)))) else (none))) else (none)) else (none)))) true := by
  obtain ⟨m, b, h1, h2, hm⟩ := ev_both l h
  obtain ⟨v, s1, s2⟩ := ev_sane a (by omega)
  refine Ev.bind h1 (Ev.bind h2 ?_)
  refine Ev.congr (fun k => by rw [if_pos rfl, if_pos (by simp)]) ?_
  have e1 := ev_same m m (by omega)
  rw [same_self] at e1
  refine Ev.bind e1 ?_
  refine Ev.congr (fun k => if_pos rfl) ?_
  refine Ev.bind s1 (Ev.bind s2 ?_)
  refine Ev.congr (fun k => if_pos (by simp)) ?_
  have e2 := ev_same ⟨400, ⟨0, [], hop, 0⟩, -1⟩ ⟨400, ⟨0, [], hop, 0⟩, -1⟩ (by simp)
  rw [same_self] at e2
  refine Ev.congr (fun k => ?_) (Ev.bind (f := fun _ (t : Bool) => some t) e2 (Ev.now true))
  rfl
theorem ev_all (l : List S27) (a : S27) (hop : Int) (h : few l = true) (ha : a.f1.f1.length ≤ 100) : ∀ (d i : Nat), i ≤ l.length → l.length - i = d →
    Ev (fun k => ridgewaylaw09_RouteIs.l0 k l hop true i a.f0 a.f1.f0 a.f1.f1 a.f1.f2 a.f1.f3 a.f2) true := by
  obtain ⟨hs, hn⟩ := few_all h
  have hw : NextOk l.length := small_next (by omega)
  intro d
  induction d with
  | zero =>
    intro i hi hd
    refine Ev.step (fun k => ?_) (ev_tail l a hop h ha)
    simp only [ridgewaylaw09_RouteIs.l0]
    rw [if_neg (by omega)]
  | succ d ih =>
    intro i hi hd
    have hlt : i < l.length := by omega
    have hi1 := ih (i + 1) (by omega) (by omega)
    have hx := hs _ (List.getElem_mem hlt)
    have hc : route_Compare.f l[i].f0 l[i].f1.f0 l[i].f1.f1 l[i].f1.f2 l[i].f1.f3 l[i].f2 a.f0 a.f1.f0 a.f1.f1 a.f1.f2 a.f1.f3 a.f2 = some (cmpR l[i] a) := rfl
    have hsm : route_Same.f l[i].f0 l[i].f1.f0 l[i].f1.f1 l[i].f1.f2 l[i].f1.f3 l[i].f2 a.f0 a.f1.f0 a.f1.f1 a.f1.f2 a.f1.f3 a.f2 = some (cmpR l[i] a == 0) := rfl
    have h1 := ev_cmp l[i] a hx
    have h2 := ev_same l[i] a (by omega)
    obtain ⟨v, s1, s2⟩ := ev_sane l[i] (by omega)
    have hfin : Ev (fun k => (ridgewayref09_Compare.f k l[i].f0 l[i].f1.f0 l[i].f1.f1 l[i].f1.f2 l[i].f1.f3 l[i].f2 a.f0 a.f1.f0 a.f1.f1 a.f1.f2 a.f1.f3 a.f2).bind fun t238 => (if cmpR l[i] a = t238 then ((ridgewayref09_Same.f k l[i].f0 l[i].f1.f0 l[i].f1.f1 l[i].f1.f2 l[i].f1.f3 l[i].f2 a.f0 a.f1.f0 a.f1.f1 a.f1.f2 a.f1.f3 a.f2).bind fun t242 => (if ((cmpR l[i] a == 0) != t242) = true then none else ((route_Sane.f k l[i].f0 l[i].f1.f0 l[i].f1.f1 l[i].f1.f2 l[i].f1.f3 l[i].f2).bind fun t244 => ((ridgewayref09_Sane.f k l[i].f0 l[i].f1.f0 l[i].f1.f1 l[i].f1.f2 l[i].f1.f3 l[i].f2).bind fun t246 => (if (t244 != t246) = true then none else ridgewaylaw09_RouteIs.l0 k l hop true ((i + 1 : Nat) : Int) a.f0 a.f1.f0 a.f1.f1 a.f1.f2 a.f1.f3 a.f2))))) else none)) true := by
      refine Ev.bind h1 ?_
      refine Ev.congr (fun k => if_pos rfl) ?_
      refine Ev.bind h2 ?_
      refine Ev.congr (fun k => if_neg (by simp)) ?_
      refine Ev.bind s1 (Ev.bind s2 ?_)
      exact Ev.congr (fun k => if_neg (by simp)) hi1
    refine Ev.step (fun k => ?_) hfin
    simp only [ridgewaylaw09_RouteIs.l0]
    rw [if_pos (by omega), if_pos (by omega), rd27 l i hlt, hc, hsm, hw i hlt]
    rfl
theorem RouteIs : ridgewaylaw09_RouteIs.Pure := by
  intro l a hop hl _ _
  refine Ev.rounds ?_
  have h1 := few_ev l hl.1
  have h2 := few_ev [a] (by simp)
  unfold ridgewaylaw09_RouteIs.f
  refine Ev.bind (Ev.now true) ?_
  refine Ev.bind h1 ?_
  have no : Ev (fun k => ridgewaylaw09_RouteIs.j0 k l hop true true a.f0 a.f1.f0 a.f1.f1 a.f1.f2 a.f1.f3 a.f2) true := Ev.step (f := fun _ => some true) (fun k => by simp only [ridgewaylaw09_RouteIs.j0]; rw [if_pos trivial]) (Ev.now _)
  cases hf : few l with
  | false => exact Ev.congr (fun k => if_neg (by simp)) no
  | true =>
    refine Ev.congr (fun k => if_pos rfl) ?_
    refine Ev.bind h2 ?_
    cases hg : few [a] with
    | false => exact no
    | true =>
      have ha : a.f1.f1.length ≤ 100 := (few_all hg).1 a (by simp)
      exact Ev.step (f := fun k => ridgewaylaw09_RouteIs.l0 k l hop true 0 a.f0 a.f1.f0 a.f1.f1 a.f1.f2 a.f1.f3 a.f2) (fun k => by simp only [ridgewaylaw09_RouteIs.j0]; rw [if_neg (by simp)]) (ev_all l a hop hf ha _ 0 (Nat.zero_le _) rfl)
end Go.Proofs.Ytmbacpnmniemnaa.Pure
