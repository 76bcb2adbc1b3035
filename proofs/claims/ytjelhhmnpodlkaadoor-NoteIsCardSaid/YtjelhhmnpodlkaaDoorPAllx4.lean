-- Written by a program of this session's (wip/tools), out of the translation. Lean checks it.
import Derived.Test.YtjelhhmnpodlkaaDoorPAllx0
namespace Go.Proofs.YtjelhhmnpodlkaaDoor.PAll
open Go.RowKit Go.Proofs.YtjelhhmnpodlkaaDoorW.PrintWords Go.Proofs.YtjelhhmnpodlkaaDoorW.PrintLast Go.Proofs.YtjelhhmnpodlkaaDoorW.PrintMore
attribute [local go_sem] max2_int min2_int max_two min_two max_three min_three max_four min_four   -- for this text's walks alone
set_option linter.unusedVariables false
set_option linter.unusedSimpArgs false

/-! ### ridgewayref05_Known: function 17 -/
def ridgewayref05_Known.f (a0 : Int) (a1 : Int) : Option (Bool) := if a0 = 1 then (if a1 ≥ 1 then (some (decide (a1 ≤ 3))) else (some false)) else (if a0 = 2 then (if a1 ≥ 1 then (if a1 ≤ 4 then (some true) else (if a1 = 6 then (some true) else (if a1 = 7 then (some true) else (some (a1 == 11))))) else (if a1 = 6 then (some true) else (if a1 = 7 then (some true) else (some (a1 == 11))))) else (if a0 = 3 then (if a1 ≥ 1 then (if a1 ≤ 11 then (some (a1 != 7)) else (some false)) else (some false)) else (if a0 = 4 then (some (a1 == 0)) else (if a0 = 5 then (if a1 ≥ 0 then (some (decide (a1 ≤ 3))) else (some false)) else (if a0 = 6 then (if a1 ≥ 1 then (some (decide (a1 ≤ 10))) else (some false)) else (some false))))))
set_option maxHeartbeats 8000000 in
set_option maxRecDepth 100000 in
theorem ridgewayref05_Known.calls (a0 : Int) (a1 : Int) (r : Bool) (w : World) (h : ridgewayref05_Known.f a0 a1 = some r) :
  Calls Tryd.prog 17 #[.int .i64 a0, .int .i64 a1] w fun e w' => e = .returned (.bool r) ∧ Drawn0 w w' := by
 have H : (if a0 = 1 then (if a1 ≥ 1 then (some (decide (a1 ≤ 3))) else (some false)) else (if a0 = 2 then (if a1 ≥ 1 then (if a1 ≤ 4 then (some true) else (if a1 = 6 then (some true) else (if a1 = 7 then (some true) else (some (a1 == 11))))) else (if a1 = 6 then (some true) else (if a1 = 7 then (some true) else (some (a1 == 11))))) else (if a0 = 3 then (if a1 ≥ 1 then (if a1 ≤ 11 then (some (a1 != 7)) else (some false)) else (some false)) else (if a0 = 4 then (some (a1 == 0)) else (if a0 = 5 then (if a1 ≥ 0 then (some (decide (a1 ≤ 3))) else (some false)) else (if a0 = 6 then (if a1 ≥ 1 then (some (decide (a1 ≤ 10))) else (some false)) else (some false))))))) = some r := h
 clear h
 by_cases c3 : a0 = 1
 ·rw [if_pos c3] at H
  have c3b0 : (a0 == 1) = true := beq_iff_eq.mpr c3
  have c3b1 : (a0 != 1) = false := bne_eq_false_iff_eq.mpr c3
  clear c3
  by_cases c4 : a1 ≥ 1
  ·rw [if_pos c4] at H
   have c4b0 : decide (1 ≤ a1) = true := decide_eq_true c4
   clear c4
   obtain rfl := Option.some.inj H
   go_enter Tryd.func17, Tryd.ntmps17
   go_wp2
   go_ret
   exact ⟨by first | rfl | (simp; done) | (simp [*]; done), by repeat (first | exact Drawn0.refl _ | apply Drawn0.step)⟩
  ·rw [if_neg c4] at H
   have c4b0 : decide (1 ≤ a1) = false := decide_eq_false c4
   clear c4
   obtain rfl := Option.some.inj H
   go_enter Tryd.func17, Tryd.ntmps17
   go_wp2
   go_ret
   exact ⟨by first | rfl | (simp; done) | (simp [*]; done), by repeat (first | exact Drawn0.refl _ | apply Drawn0.step)⟩
 ·rw [if_neg c3] at H
  have c3b0 : (a0 == 1) = false := beq_eq_false_iff_ne.mpr c3
  have c3b1 : (a0 != 1) = true := bne_iff_ne.mpr c3
  by_cases c5 : a0 = 2
  ·rw [if_pos c5] at H
   have c5b0 : (a0 == 2) = true := beq_iff_eq.mpr c5
   have c5b1 : (a0 != 2) = false := bne_eq_false_iff_eq.mpr c5
   clear c5
   by_cases c6 : a1 ≥ 1
   ·rw [if_pos c6] at H
    have c6b0 : decide (1 ≤ a1) = true := decide_eq_true c6
    clear c6
    by_cases c7 : a1 ≤ 4
    ·rw [if_pos c7] at H
     have c7b0 : decide (a1 ≤ 4) = true := decide_eq_true c7
     clear c7
     obtain rfl := Option.some.inj H
     go_enter Tryd.func17, Tryd.ntmps17
     go_wp2
     go_ret
     exact ⟨by first | rfl | (simp; done) | (simp [*]; done), by repeat (first | exact Drawn0.refl _ | apply Drawn0.step)⟩
    ·rw [if_neg c7] at H
     have c7b0 : decide (a1 ≤ 4) = false := decide_eq_false c7
     clear c7
     by_cases c8 : a1 = 6
     ·rw [if_pos c8] at H
      have c8b0 : (a1 == 6) = true := beq_iff_eq.mpr c8
      have c8b1 : (a1 != 6) = false := bne_eq_false_iff_eq.mpr c8
      clear c8
      obtain rfl := Option.some.inj H
      go_enter Tryd.func17, Tryd.ntmps17
      go_wp2
      go_ret
      exact ⟨by first | rfl | (simp; done) | (simp [*]; done), by repeat (first | exact Drawn0.refl _ | apply Drawn0.step)⟩
     ·rw [if_neg c8] at H
      have c8b0 : (a1 == 6) = false := beq_eq_false_iff_ne.mpr c8
      have c8b1 : (a1 != 6) = true := bne_iff_ne.mpr c8
      by_cases c9 : a1 = 7
      ·rw [if_pos c9] at H
       have c9b0 : (a1 == 7) = true := beq_iff_eq.mpr c9
       have c9b1 : (a1 != 7) = false := bne_eq_false_iff_eq.mpr c9
       clear c9
       obtain rfl := Option.some.inj H
       go_enter Tryd.func17, Tryd.ntmps17
       go_wp2
       go_ret
       exact ⟨by first | rfl | (simp; done) | (simp [*]; done), by repeat (first | exact Drawn0.refl _ | apply Drawn0.step)⟩
      ·rw [if_neg c9] at H
       have c9b0 : (a1 == 7) = false := beq_eq_false_iff_ne.mpr c9
       have c9b1 : (a1 != 7) = true := bne_iff_ne.mpr c9
       obtain rfl := Option.some.inj H
       go_enter Tryd.func17, Tryd.ntmps17
       go_wp2
       go_ret
       exact ⟨by first | rfl | (simp; done) | (simp [*]; done), by repeat (first | exact Drawn0.refl _ | apply Drawn0.step)⟩
   ·rw [if_neg c6] at H
    have c6b0 : decide (1 ≤ a1) = false := decide_eq_false c6
    clear c6
    by_cases c10 : a1 = 6
    ·rw [if_pos c10] at H
     have c10b0 : (a1 == 6) = true := beq_iff_eq.mpr c10
     have c10b1 : (a1 != 6) = false := bne_eq_false_iff_eq.mpr c10
     clear c10
     obtain rfl := Option.some.inj H
     go_enter Tryd.func17, Tryd.ntmps17
     go_wp2
     go_ret
     exact ⟨by first | rfl | (simp; done) | (simp [*]; done), by repeat (first | exact Drawn0.refl _ | apply Drawn0.step)⟩
    ·rw [if_neg c10] at H
     have c10b0 : (a1 == 6) = false := beq_eq_false_iff_ne.mpr c10
     have c10b1 : (a1 != 6) = true := bne_iff_ne.mpr c10
     by_cases c11 : a1 = 7
     ·rw [if_pos c11] at H
      have c11b0 : (a1 == 7) = true := beq_iff_eq.mpr c11
      have c11b1 : (a1 != 7) = false := bne_eq_false_iff_eq.mpr c11
      clear c11
      obtain rfl := Option.some.inj H
      go_enter Tryd.func17, Tryd.ntmps17
      go_wp2
      go_ret
      exact ⟨by first | rfl | (simp; done) | (simp [*]; done), by repeat (first | exact Drawn0.refl _ | apply Drawn0.step)⟩
     ·rw [if_neg c11] at H
      have c11b0 : (a1 == 7) = false := beq_eq_false_iff_ne.mpr c11
      have c11b1 : (a1 != 7) = true := bne_iff_ne.mpr c11
      obtain rfl := Option.some.inj H
      go_enter Tryd.func17, Tryd.ntmps17
      go_wp2
      go_ret
      exact ⟨by first | rfl | (simp; done) | (simp [*]; done), by repeat (first | exact Drawn0.refl _ | apply Drawn0.step)⟩
  ·rw [if_neg c5] at H
   have c5b0 : (a0 == 2) = false := beq_eq_false_iff_ne.mpr c5
   have c5b1 : (a0 != 2) = true := bne_iff_ne.mpr c5
   by_cases c12 : a0 = 3
   ·rw [if_pos c12] at H
    have c12b0 : (a0 == 3) = true := beq_iff_eq.mpr c12
    have c12b1 : (a0 != 3) = false := bne_eq_false_iff_eq.mpr c12
    clear c12
    by_cases c13 : a1 ≥ 1
    ·rw [if_pos c13] at H
     have c13b0 : decide (1 ≤ a1) = true := decide_eq_true c13
     clear c13
     by_cases c14 : a1 ≤ 11
     ·rw [if_pos c14] at H
      have c14b0 : decide (a1 ≤ 11) = true := decide_eq_true c14
      clear c14
      obtain rfl := Option.some.inj H
      go_enter Tryd.func17, Tryd.ntmps17
      go_wp2
      go_ret
      exact ⟨by first | rfl | (simp; done) | (simp [*]; done), by repeat (first | exact Drawn0.refl _ | apply Drawn0.step)⟩
     ·rw [if_neg c14] at H
      have c14b0 : decide (a1 ≤ 11) = false := decide_eq_false c14
      clear c14
      obtain rfl := Option.some.inj H
      go_enter Tryd.func17, Tryd.ntmps17
      go_wp2
      go_ret
      exact ⟨by first | rfl | (simp; done) | (simp [*]; done), by repeat (first | exact Drawn0.refl _ | apply Drawn0.step)⟩
    ·rw [if_neg c13] at H
     have c13b0 : decide (1 ≤ a1) = false := decide_eq_false c13
     clear c13
     obtain rfl := Option.some.inj H
     go_enter Tryd.func17, Tryd.ntmps17
     go_wp2
     go_ret
     exact ⟨by first | rfl | (simp; done) | (simp [*]; done), by repeat (first | exact Drawn0.refl _ | apply Drawn0.step)⟩
   ·rw [if_neg c12] at H
    have c12b0 : (a0 == 3) = false := beq_eq_false_iff_ne.mpr c12
    have c12b1 : (a0 != 3) = true := bne_iff_ne.mpr c12
    by_cases c15 : a0 = 4
    ·rw [if_pos c15] at H
     have c15b0 : (a0 == 4) = true := beq_iff_eq.mpr c15
     have c15b1 : (a0 != 4) = false := bne_eq_false_iff_eq.mpr c15
     clear c15
     obtain rfl := Option.some.inj H
     go_enter Tryd.func17, Tryd.ntmps17
     go_wp2
     go_ret
     exact ⟨by first | rfl | (simp; done) | (simp [*]; done), by repeat (first | exact Drawn0.refl _ | apply Drawn0.step)⟩
    ·rw [if_neg c15] at H
     have c15b0 : (a0 == 4) = false := beq_eq_false_iff_ne.mpr c15
     have c15b1 : (a0 != 4) = true := bne_iff_ne.mpr c15
     by_cases c16 : a0 = 5
     ·rw [if_pos c16] at H
      have c16b0 : (a0 == 5) = true := beq_iff_eq.mpr c16
      have c16b1 : (a0 != 5) = false := bne_eq_false_iff_eq.mpr c16
      clear c16
      by_cases c17 : a1 ≥ 0
      ·rw [if_pos c17] at H
       have c17b0 : decide (0 ≤ a1) = true := decide_eq_true c17
       clear c17
       obtain rfl := Option.some.inj H
       go_enter Tryd.func17, Tryd.ntmps17
       go_wp2
       go_ret
       exact ⟨by first | rfl | (simp; done) | (simp [*]; done), by repeat (first | exact Drawn0.refl _ | apply Drawn0.step)⟩
      ·rw [if_neg c17] at H
       have c17b0 : decide (0 ≤ a1) = false := decide_eq_false c17
       clear c17
       obtain rfl := Option.some.inj H
       go_enter Tryd.func17, Tryd.ntmps17
       go_wp2
       go_ret
       exact ⟨by first | rfl | (simp; done) | (simp [*]; done), by repeat (first | exact Drawn0.refl _ | apply Drawn0.step)⟩
     ·rw [if_neg c16] at H
      have c16b0 : (a0 == 5) = false := beq_eq_false_iff_ne.mpr c16
      have c16b1 : (a0 != 5) = true := bne_iff_ne.mpr c16
      by_cases c18 : a0 = 6
      ·rw [if_pos c18] at H
       have c18b0 : (a0 == 6) = true := beq_iff_eq.mpr c18
       have c18b1 : (a0 != 6) = false := bne_eq_false_iff_eq.mpr c18
       clear c18
       by_cases c19 : a1 ≥ 1
       ·rw [if_pos c19] at H
        have c19b0 : decide (1 ≤ a1) = true := decide_eq_true c19
        clear c19
        obtain rfl := Option.some.inj H
        go_enter Tryd.func17, Tryd.ntmps17
        go_wp2
        go_ret
        exact ⟨by first | rfl | (simp; done) | (simp [*]; done), by repeat (first | exact Drawn0.refl _ | apply Drawn0.step)⟩
       ·rw [if_neg c19] at H
        have c19b0 : decide (1 ≤ a1) = false := decide_eq_false c19
        clear c19
        obtain rfl := Option.some.inj H
        go_enter Tryd.func17, Tryd.ntmps17
        go_wp2
        go_ret
        exact ⟨by first | rfl | (simp; done) | (simp [*]; done), by repeat (first | exact Drawn0.refl _ | apply Drawn0.step)⟩
      ·rw [if_neg c18] at H
       have c18b0 : (a0 == 6) = false := beq_eq_false_iff_ne.mpr c18
       have c18b1 : (a0 != 6) = true := bne_iff_ne.mpr c18
       obtain rfl := Option.some.inj H
       go_enter Tryd.func17, Tryd.ntmps17
       go_wp2
       go_ret
       exact ⟨by first | rfl | (simp; done) | (simp [*]; done), by repeat (first | exact Drawn0.refl _ | apply Drawn0.step)⟩

/-! ### ridgewayref02_Digits: function 28 -/
def ridgewayref02_Digits.f : Nat → Int → Option (ByteArray)
 | 0, _ => none
 | k + 1, a0 => if a0 < 10 then (if 0 ≤ a0 then (if a0 ≤ (wrap64 (a0 + 1)) then (if (wrap64 (a0 + 1)) ≤ 10 then (some ((⟨#[48, 49, 50, 51, 52, 53, 54, 55, 56, 57]⟩ : ByteArray).extract (a0 : Int).toNat ((wrap64 (a0 + 1)) : Int).toNat)) else (none)) else (none)) else (none)) else ((ridgewayref02_Digits.f k (wrap64 (Int.tdiv a0 10))).bind fun t154 => ((ridgewayref02_Digits.f k (Int.tmod a0 10)).bind fun t155 => (if t154.size + t155.size ≤ 9223372036854775807 then (some (t154 ++ t155)) else (none))))
theorem ridgewayref02_Digits.mono_l : ∀ k, (∀ y0, LeO (ridgewayref02_Digits.f k y0) (ridgewayref02_Digits.f (k + 1) y0))
 | 0 => fun _ r h => by simp [ridgewayref02_Digits.f] at h
 | k + 1 => by
  have ih0 := ridgewayref02_Digits.mono_l k
  ·intro y0
   unfold ridgewayref02_Digits.f
   repeat' first
   | (with_reducible exact ih0 _)
   | (with_reducible exact LeO.refl _)
   | (with_reducible exact LeO.none _)
   | (with_reducible refine LeO.ite ?_ ?_)
   | (with_reducible refine LeO.bind ?_ (fun _ => ?_))
   | exact ih0 _
   | exact LeO.none _
   | refine LeO.ite ?_ ?_
   | refine LeO.bind ?_ (fun _ => ?_)
theorem ridgewayref02_Digits.mono : ∀ a0 k, LeO (ridgewayref02_Digits.f k a0) (ridgewayref02_Digits.f (k + 1) a0) := by
 intro a0 k
 have ih0 := ridgewayref02_Digits.mono_l k
 exact ih0 a0
set_option maxHeartbeats 8000000 in
set_option maxRecDepth 100000 in
theorem ridgewayref02_Digits.calls (k : Nat) : ∀ (a0 : Int) (r : ByteArray) (w : World) (h : ridgewayref02_Digits.f k a0 = some r),
  Calls Tryd.prog 28 #[.int .i64 a0] w fun e w' => e = .returned (.string r) ∧ Drawn0 w w' := by
 induction k using Nat.strongRecOn with
 | _ k ih =>
 intro a0 r w h
 cases k with
 | zero => exact absurd h (by simp [ridgewayref02_Digits.f])
 | succ k =>
 simp only [ridgewayref02_Digits.f] at h
 have H : (if a0 < 10 then (if 0 ≤ a0 then (if a0 ≤ (wrap64 (a0 + 1)) then (if (wrap64 (a0 + 1)) ≤ 10 then (some ((⟨#[48, 49, 50, 51, 52, 53, 54, 55, 56, 57]⟩ : ByteArray).extract (a0 : Int).toNat ((wrap64 (a0 + 1)) : Int).toNat)) else (none)) else (none)) else (none)) else ((ridgewayref02_Digits.f k (wrap64 (Int.tdiv a0 10))).bind fun t154 => ((ridgewayref02_Digits.f k (Int.tmod a0 10)).bind fun t155 => (if t154.size + t155.size ≤ 9223372036854775807 then (some (t154 ++ t155)) else (none))))) = some r := h
 clear h
 by_cases c2 : a0 < 10
 ·rw [if_pos c2] at H
  have c2b0 : decide (a0 < 10) = true := decide_eq_true c2
  clear c2
  by_cases c3 : 0 ≤ a0
  ·rw [if_pos c3] at H
   have c3b0 := eq_true c3
   have c3b1 : decide (0 ≤ a0) = true := decide_eq_true c3
   clear c3
   by_cases c4 : a0 ≤ (wrap64 (a0 + 1))
   ·rw [if_pos c4] at H
    have c4b0 := eq_true c4
    have c4b1 : decide (a0 ≤ (wrap64 (a0 + 1))) = true := decide_eq_true c4
    by_cases c5 : (wrap64 (a0 + 1)) ≤ 10
    ·rw [if_pos c5] at H
     have c5b0 := eq_true c5
     have c5b1 : decide ((wrap64 (a0 + 1)) ≤ 10) = true := decide_eq_true c5
     obtain rfl := Option.some.inj H
     go_enter Tryd.func28, Tryd.ntmps28
     go_wp2
     go_ret
     exact ⟨by first | rfl | (simp; done) | (simp [*]; done), by repeat (first | exact Drawn0.refl _ | apply Drawn0.step)⟩
    ·rw [if_neg c5] at H
     exact absurd H (by simp)
   ·rw [if_neg c4] at H
    exact absurd H (by simp)
  ·rw [if_neg c3] at H
   exact absurd H (by simp)
 ·rw [if_neg c2] at H
  have c2b0 : decide (a0 < 10) = false := decide_eq_false c2
  clear c2
  replace H := Option.bind_eq_some_iff.mp H
  obtain ⟨t154, A60, H⟩ := H
  replace H : ((ridgewayref02_Digits.f k (Int.tmod a0 10)).bind fun t155 => (if t154.size + t155.size ≤ 9223372036854775807 then (some (t154 ++ t155)) else (none))) = some r := H
  have A6 := Aside0.mk A60
  clear A60
  replace H := Option.bind_eq_some_iff.mp H
  obtain ⟨t155, A70, H⟩ := H
  replace H : (if t154.size + t155.size ≤ 9223372036854775807 then (some (t154 ++ t155)) else (none)) = some r := H
  have A7 := Aside0.mk A70
  clear A70
  by_cases c8 : t154.size + t155.size ≤ 9223372036854775807
  ·rw [if_pos c8] at H
   have c8b0 := eq_true c8
   have c8b1 : decide (t154.size + t155.size ≤ 9223372036854775807) = true := decide_eq_true c8
   try have c8b2 : (9223372036854775807 < t154.size + t155.size) = False := eq_false (Nat.not_lt.2 c8)
   obtain rfl := Option.some.inj H
   go_enter Tryd.func28, Tryd.ntmps28
   go_wp2_with (first | ((with_reducible refine gate_callee (f := 28) rfl ?_); refine goesL_ (some 11) rfl rfl Tryd.func28 (by kernel_rfl) rfl #[.int .i64 (wrap64 (Int.tdiv a0 10))] rfl (by (try simp only [List.map_toArray, List.map_cons, List.map_nil]); first | done | rfl | (simp only [List.length_drop, List.length_take]; rfl)) ?_; (with_reducible refine (ih k (by omega) (wrap64 (Int.tdiv a0 10)) t154 _ A6.out).mono ?_); rintro e w' ⟨rfl, ⟨nd, rfl⟩⟩; refine ⟨_, rfl, ?_⟩) | ((with_reducible refine gate_callee (f := 28) rfl ?_); refine goesL_ (some 14) rfl rfl Tryd.func28 (by kernel_rfl) rfl #[.int .i64 (Int.tmod a0 10)] rfl (by (try simp only [List.map_toArray, List.map_cons, List.map_nil]); first | done | rfl | (simp only [List.length_drop, List.length_take]; rfl)) ?_; (with_reducible refine (ih k (by omega) (Int.tmod a0 10) t155 _ A7.out).mono ?_); rintro e w' ⟨rfl, ⟨nd, rfl⟩⟩; refine ⟨_, rfl, ?_⟩))
   go_ret
   exact ⟨by first | rfl | (simp; done) | (simp [*]; done), by repeat (first | exact Drawn0.refl _ | apply Drawn0.step)⟩
  ·rw [if_neg c8] at H
   exact absurd H (by simp)

/-! ### ridgewayref05_digits: function 24 -/
def ridgewayref05_digits.f : Nat → Int → Option (ByteArray)
 | 0, _ => none
 | k + 1, a0 => if a0 ≥ 0 then ((ridgewayref02_Digits.f k a0).bind fun t156 => (some t156)) else (if a0 > (-10) then ((ridgewayref02_Digits.f k (wrap64 (-a0))).bind fun t157 => (if 1 + t157.size ≤ 9223372036854775807 then (some ((⟨#[45]⟩ : ByteArray) ++ t157)) else (none))) else ((ridgewayref05_digits.f k (wrap64 (Int.tdiv a0 10))).bind fun t158 => ((ridgewayref02_Digits.f k (wrap64 (-(Int.tmod a0 10)))).bind fun t159 => (if t158.size + t159.size ≤ 9223372036854775807 then (some (t158 ++ t159)) else (none)))))
theorem ridgewayref05_digits.mono_l : ∀ k, (∀ y0, LeO (ridgewayref05_digits.f k y0) (ridgewayref05_digits.f (k + 1) y0))
 | 0 => fun _ r h => by simp [ridgewayref05_digits.f] at h
 | k + 1 => by
  have ih0 := ridgewayref05_digits.mono_l k
  ·intro y0
   unfold ridgewayref05_digits.f
   repeat' first
   | (with_reducible exact ih0 _)
   | (with_reducible exact ridgewayref02_Digits.mono _ _)
   | (with_reducible exact LeO.refl _)
   | (with_reducible exact LeO.none _)
   | (with_reducible refine LeO.ite ?_ ?_)
   | (with_reducible refine LeO.bind ?_ (fun _ => ?_))
   | exact ih0 _
   | exact ridgewayref02_Digits.mono _ _
   | exact LeO.none _
   | refine LeO.ite ?_ ?_
   | refine LeO.bind ?_ (fun _ => ?_)
theorem ridgewayref05_digits.mono : ∀ a0 k, LeO (ridgewayref05_digits.f k a0) (ridgewayref05_digits.f (k + 1) a0) := by
 intro a0 k
 have ih0 := ridgewayref05_digits.mono_l k
 exact ih0 a0
set_option maxHeartbeats 8000000 in
set_option maxRecDepth 100000 in
theorem ridgewayref05_digits.calls (k : Nat) : ∀ (a0 : Int) (r : ByteArray) (w : World) (h : ridgewayref05_digits.f k a0 = some r),
  Calls Tryd.prog 24 #[.int .i64 a0] w fun e w' => e = .returned (.string r) ∧ Drawn0 w w' := by
 induction k using Nat.strongRecOn with
 | _ k ih =>
 intro a0 r w h
 cases k with
 | zero => exact absurd h (by simp [ridgewayref05_digits.f])
 | succ k =>
 simp only [ridgewayref05_digits.f] at h
 have H : (if a0 ≥ 0 then ((ridgewayref02_Digits.f k a0).bind fun t156 => (some t156)) else (if a0 > (-10) then ((ridgewayref02_Digits.f k (wrap64 (-a0))).bind fun t157 => (if 1 + t157.size ≤ 9223372036854775807 then (some ((⟨#[45]⟩ : ByteArray) ++ t157)) else (none))) else ((ridgewayref05_digits.f k (wrap64 (Int.tdiv a0 10))).bind fun t158 => ((ridgewayref02_Digits.f k (wrap64 (-(Int.tmod a0 10)))).bind fun t159 => (if t158.size + t159.size ≤ 9223372036854775807 then (some (t158 ++ t159)) else (none)))))) = some r := h
 clear h
 by_cases c2 : a0 ≥ 0
 ·rw [if_pos c2] at H
  have c2b0 : decide (0 ≤ a0) = true := decide_eq_true c2
  clear c2
  replace H := Option.bind_eq_some_iff.mp H
  obtain ⟨t156, A30, H⟩ := H
  replace H : (some t156) = some r := H
  have A3 := Aside0.mk A30
  clear A30
  obtain rfl := Option.some.inj H
  go_enter Tryd.func24, Tryd.ntmps24
  go_wp2_with (first | ((with_reducible refine gate_callee (f := 28) rfl ?_); refine goesL_ (some 6) rfl rfl Tryd.func28 (by kernel_rfl) rfl #[.int .i64 a0] rfl (by (try simp only [List.map_toArray, List.map_cons, List.map_nil]); first | done | rfl | (simp only [List.length_drop, List.length_take]; rfl)) ?_; (with_reducible refine (ridgewayref02_Digits.calls k a0 t156 _ A3.out).mono ?_); rintro e w' ⟨rfl, ⟨nd, rfl⟩⟩; refine ⟨_, rfl, ?_⟩))
  go_ret
  exact ⟨by first | rfl | (simp; done) | (simp [*]; done), by repeat (first | exact Drawn0.refl _ | apply Drawn0.step)⟩
 ·rw [if_neg c2] at H
  have c2b0 : decide (0 ≤ a0) = false := decide_eq_false c2
  clear c2
  by_cases c4 : a0 > (-10)
  ·rw [if_pos c4] at H
   have c4b0 : decide ((-10) < a0) = true := decide_eq_true c4
   clear c4
   replace H := Option.bind_eq_some_iff.mp H
   obtain ⟨t157, A50, H⟩ := H
   replace H : (if 1 + t157.size ≤ 9223372036854775807 then (some ((⟨#[45]⟩ : ByteArray) ++ t157)) else (none)) = some r := H
   have A5 := Aside0.mk A50
   clear A50
   by_cases c6 : 1 + t157.size ≤ 9223372036854775807
   ·rw [if_pos c6] at H
    have c6b0 := eq_true c6
    have c6b1 : decide (1 + t157.size ≤ 9223372036854775807) = true := decide_eq_true c6
    try have c6b2 : (9223372036854775807 < 1 + t157.size) = False := eq_false (Nat.not_lt.2 c6)
    obtain rfl := Option.some.inj H
    go_enter Tryd.func24, Tryd.ntmps24
    go_wp2_with (first | ((with_reducible refine gate_callee (f := 28) rfl ?_); refine goesL_ (some 11) rfl rfl Tryd.func28 (by kernel_rfl) rfl #[.int .i64 (wrap64 (-a0))] rfl (by (try simp only [List.map_toArray, List.map_cons, List.map_nil]); first | done | rfl | (simp only [List.length_drop, List.length_take]; rfl)) ?_; (with_reducible refine (ridgewayref02_Digits.calls k (wrap64 (-a0)) t157 _ A5.out).mono ?_); rintro e w' ⟨rfl, ⟨nd, rfl⟩⟩; refine ⟨_, rfl, ?_⟩))
    go_ret
    exact ⟨by first | rfl | (simp; done) | (simp [*]; done), by repeat (first | exact Drawn0.refl _ | apply Drawn0.step)⟩
   ·rw [if_neg c6] at H
    exact absurd H (by simp)
  ·rw [if_neg c4] at H
   have c4b0 : decide ((-10) < a0) = false := decide_eq_false c4
   clear c4
   replace H := Option.bind_eq_some_iff.mp H
   obtain ⟨t158, A70, H⟩ := H
   replace H : ((ridgewayref02_Digits.f k (wrap64 (-(Int.tmod a0 10)))).bind fun t159 => (if t158.size + t159.size ≤ 9223372036854775807 then (some (t158 ++ t159)) else (none))) = some r := H
   have A7 := Aside0.mk A70
   clear A70
   replace H := Option.bind_eq_some_iff.mp H
   obtain ⟨t159, A80, H⟩ := H
   replace H : (if t158.size + t159.size ≤ 9223372036854775807 then (some (t158 ++ t159)) else (none)) = some r := H
   have A8 := Aside0.mk A80
   clear A80
   by_cases c9 : t158.size + t159.size ≤ 9223372036854775807
   ·rw [if_pos c9] at H
    have c9b0 := eq_true c9
    have c9b1 : decide (t158.size + t159.size ≤ 9223372036854775807) = true := decide_eq_true c9
    try have c9b2 : (9223372036854775807 < t158.size + t159.size) = False := eq_false (Nat.not_lt.2 c9)
    obtain rfl := Option.some.inj H
    go_enter Tryd.func24, Tryd.ntmps24
    go_wp2_with (first | ((with_reducible refine gate_callee (f := 24) rfl ?_); refine goesL_ (some 15) rfl rfl Tryd.func24 (by kernel_rfl) rfl #[.int .i64 (wrap64 (Int.tdiv a0 10))] rfl (by (try simp only [List.map_toArray, List.map_cons, List.map_nil]); first | done | rfl | (simp only [List.length_drop, List.length_take]; rfl)) ?_; (with_reducible refine (ih k (by omega) (wrap64 (Int.tdiv a0 10)) t158 _ A7.out).mono ?_); rintro e w' ⟨rfl, ⟨nd, rfl⟩⟩; refine ⟨_, rfl, ?_⟩) | ((with_reducible refine gate_callee (f := 28) rfl ?_); refine goesL_ (some 19) rfl rfl Tryd.func28 (by kernel_rfl) rfl #[.int .i64 (wrap64 (-(Int.tmod a0 10)))] rfl (by (try simp only [List.map_toArray, List.map_cons, List.map_nil]); first | done | rfl | (simp only [List.length_drop, List.length_take]; rfl)) ?_; (with_reducible refine (ridgewayref02_Digits.calls k (wrap64 (-(Int.tmod a0 10))) t159 _ A8.out).mono ?_); rintro e w' ⟨rfl, ⟨nd, rfl⟩⟩; refine ⟨_, rfl, ?_⟩))
    go_ret
    exact ⟨by first | rfl | (simp; done) | (simp [*]; done), by repeat (first | exact Drawn0.refl _ | apply Drawn0.step)⟩
   ·rw [if_neg c9] at H
    exact absurd H (by simp)

/-! ### ridgewayref05_Name: function 19 -/
def ridgewayref05_Name.j0 : Nat → List ByteArray → Bool → Int → Int → List Int → Option (ByteArray)
 | 0, _, _, _, _, _ => none
 | k + 1, x3, x12, x161000, x161001, x161002 => if x12 = true then (if 0 ≤ (wrap64 (x161000 - 1)) then (if (wrap64 (x161000 - 1)) < (x3.length : Int) then (if (rdOf ByteArray.empty x3 (wrap64 (x161000 - 1))).size + 1 ≤ 9223372036854775807 then ((ridgewayref05_digits.f k x161001).bind fun t165 => (if ((rdOf ByteArray.empty x3 (wrap64 (x161000 - 1))) ++ (⟨#[47]⟩ : ByteArray)).size + t165.size ≤ 9223372036854775807 then (some (((rdOf ByteArray.empty x3 (wrap64 (x161000 - 1))) ++ (⟨#[47]⟩ : ByteArray)) ++ t165)) else (none))) else (none)) else (none)) else (none)) else ((ridgewayref05_digits.f k x161000).bind fun t166 => (if t166.size + 1 ≤ 9223372036854775807 then ((ridgewayref05_digits.f k x161001).bind fun t167 => (if (t166 ++ (⟨#[47]⟩ : ByteArray)).size + t167.size ≤ 9223372036854775807 then (some ((t166 ++ (⟨#[47]⟩ : ByteArray)) ++ t167)) else (none))) else (none)))
def ridgewayref05_Name.f (k : Nat) (a0_0 : Int) (a0_1 : Int) (l0_2 : List Int) : Option (ByteArray) := (some (([(⟨#[104, 101, 97, 100, 101, 114]⟩ : ByteArray), (⟨#[111, 112, 101, 110]⟩ : ByteArray), (⟨#[117, 112, 100, 97, 116, 101]⟩ : ByteArray), (⟨#[104, 111, 108, 100]⟩ : ByteArray), (⟨#[102, 115, 109]⟩ : ByteArray), (⟨#[99, 101, 97, 115, 101]⟩ : ByteArray)] : List ByteArray) : List ByteArray)).bind fun y161 => (if a0_0 ≥ 1 then (ridgewayref05_Name.j0 k y161 (decide (a0_0 ≤ 6)) a0_0 a0_1 l0_2) else (ridgewayref05_Name.j0 k y161 false a0_0 a0_1 l0_2))
theorem ridgewayref05_Name.mono_l : ∀ k, (∀ y0 y1 y2 y3 y4, LeO (ridgewayref05_Name.j0 k y0 y1 y2 y3 y4) (ridgewayref05_Name.j0 (k + 1) y0 y1 y2 y3 y4))
 | 0 => fun _ _ _ _ _ r h => by simp [ridgewayref05_Name.j0] at h
 | k + 1 => by
  have ih0 := ridgewayref05_Name.mono_l k
  ·intro y0 y1 y2 y3 y4
   unfold ridgewayref05_Name.j0
   repeat' first
   | (with_reducible exact ih0 _ _ _ _ _)
   | (with_reducible exact ridgewayref05_digits.mono _ _)
   | (with_reducible exact LeO.refl _)
   | (with_reducible exact LeO.none _)
   | (with_reducible refine LeO.ite ?_ ?_)
   | (with_reducible refine LeO.bind ?_ (fun _ => ?_))
   | exact ih0 _ _ _ _ _
   | exact ridgewayref05_digits.mono _ _
   | exact LeO.none _
   | refine LeO.ite ?_ ?_
   | refine LeO.bind ?_ (fun _ => ?_)
theorem ridgewayref05_Name.mono : ∀ a0 a1 a2 k, LeO (ridgewayref05_Name.f k a0 a1 a2) (ridgewayref05_Name.f (k + 1) a0 a1 a2) := by
 intro a0 a1 a2 k
 have ih0 := ridgewayref05_Name.mono_l k
 unfold ridgewayref05_Name.f
 repeat' first
   | (with_reducible exact ih0 _ _ _ _ _)
   | (with_reducible exact ridgewayref05_digits.mono _ _)
   | (with_reducible exact LeO.refl _)
   | (with_reducible exact LeO.none _)
   | (with_reducible refine LeO.ite ?_ ?_)
   | (with_reducible refine LeO.bind ?_ (fun _ => ?_))
   | exact ih0 _ _ _ _ _
   | exact ridgewayref05_digits.mono _ _
   | exact LeO.none _
   | refine LeO.ite ?_ ?_
   | refine LeO.bind ?_ (fun _ => ?_)
set_option maxHeartbeats 8000000 in
set_option maxRecDepth 100000 in
theorem ridgewayref05_Name.calls (k : Nat) (a0_0 : Int) (a0_1 : Int) (A0_2 : Option Addr) (c0_2 : Nat) (l0_2 : List Int) (r : ByteArray) (w : World) (hr0_2 : Kd.C (Kd.int .u8) w A0_2 l0_2.length l0_2) (hc0_2 : l0_2.length ≤ c0_2) (h : ridgewayref05_Name.f k a0_0 a0_1 l0_2 = some r) :
  Calls Tryd.prog 19 #[.agg #[.int .i64 a0_0, .int .i64 a0_1, .slice A0_2 l0_2.length c0_2]] w fun e w' => e = .returned (.string r) ∧ Below w.heap.size w w' := by
 have hu24 := Tryd.underlying24
 have HR0_2 := Aside0.mk hr0_2
 have HC0_2 := Aside0.mk hc0_2
 clear hr0_2 hc0_2
 have HB := Aside0.mk (Below.refl w.heap.size w)
 have H : ((some (([(⟨#[104, 101, 97, 100, 101, 114]⟩ : ByteArray), (⟨#[111, 112, 101, 110]⟩ : ByteArray), (⟨#[117, 112, 100, 97, 116, 101]⟩ : ByteArray), (⟨#[104, 111, 108, 100]⟩ : ByteArray), (⟨#[102, 115, 109]⟩ : ByteArray), (⟨#[99, 101, 97, 115, 101]⟩ : ByteArray)] : List ByteArray) : List ByteArray)).bind fun y161 => (if a0_0 ≥ 1 then (ridgewayref05_Name.j0 k y161 (decide (a0_0 ≤ 6)) a0_0 a0_1 l0_2) else (ridgewayref05_Name.j0 k y161 false a0_0 a0_1 l0_2))) = some r := h
 clear h
 obtain ⟨y161, hy161⟩ : ∃ y_ : List ByteArray, y_ = (([(⟨#[104, 101, 97, 100, 101, 114]⟩ : ByteArray), (⟨#[111, 112, 101, 110]⟩ : ByteArray), (⟨#[117, 112, 100, 97, 116, 101]⟩ : ByteArray), (⟨#[104, 111, 108, 100]⟩ : ByteArray), (⟨#[102, 115, 109]⟩ : ByteArray), (⟨#[99, 101, 97, 115, 101]⟩ : ByteArray)] : List ByteArray)) := ⟨_, rfl⟩
 replace H : (if a0_0 ≥ 1 then (ridgewayref05_Name.j0 k y161 (decide (a0_0 ≤ 6)) a0_0 a0_1 l0_2) else (ridgewayref05_Name.j0 k y161 false a0_0 a0_1 l0_2)) = some r := by first | (rw [hy161]; with_reducible exact H) | (have H2_ := (Option.bind_some _ _).symm.trans H; rw [hy161]; with_reducible exact H2_) | (have H2_ := (Option.bind_some _ _).symm.trans H; with_reducible exact H2_) | with_reducible exact H | (rw [hy161]; exact H) | exact H
 have Ny161 := Aside0.mk hy161
 clear hy161
 have HC2 := Aside0.mk H
 clear H
 go_enter Tryd.func19, Tryd.ntmps19
 go_upto_region 2 with (first | ((with_reducible refine gate_dst (N := 1) rfl ?_); refine box_event ?hg (N := 1) ?hd (cs := #[.int .i64 a0_0, .int .i64 a0_1, .slice A0_2 l0_2.length c0_2]) (t := 24) ?hr ?_; (case hd => rfl); (case hg => rfl); (case hr => first | (go_simp; done) | (go_simp; rfl)); intro gb160 hg w3 hbox hb; have n0_ := Aside0.mk (below_step (by repeat (first | (with_reducible first | exact HB.out | apply below_alloc | apply pw_below_drewN | apply below_drew1) | exact HB.out)) hb); have n1_ := Aside0.mk (hbox); have n2_ := Aside0.mk ((by rw [hg]; exact (below_size (by repeat (first | (with_reducible first | exact HB.out | apply below_alloc | apply pw_below_drewN | apply below_drew1) | exact HB.out))) : w.heap.size ≤ gb160)); have n3_ := Aside0.mk ((by rw [hg]; exact (below_size (by repeat (first | (with_reducible first | exact HB.out | apply below_alloc | apply pw_below_drewN | apply below_drew1) | exact HB.out))) : w.heap.size ≤ gb160)); clear HB; have HB := n0_; have BK160 := n1_; have GW160 := n2_; have GE160 := n3_; clear n0_ n1_ n2_ n3_; clear hb hbox hg) | ((with_reducible refine gate_dst (N := 4) rfl ?_); refine Kd.R_lit Kd.string _ 9 ?hg (N := 4) ?hd (xs := ([(⟨#[104, 101, 97, 100, 101, 114]⟩ : ByteArray), (⟨#[111, 112, 101, 110]⟩ : ByteArray), (⟨#[117, 112, 100, 97, 116, 101]⟩ : ByteArray), (⟨#[104, 111, 108, 100]⟩ : ByteArray), (⟨#[102, 115, 109]⟩ : ByteArray), (⟨#[99, 101, 97, 115, 101]⟩ : ByteArray)] : List ByteArray)) (inner := [.string (⟨#[104, 101, 97, 100, 101, 114]⟩ : ByteArray), .string (⟨#[111, 112, 101, 110]⟩ : ByteArray), .string (⟨#[117, 112, 100, 97, 116, 101]⟩ : ByteArray), .string (⟨#[104, 111, 108, 100]⟩ : ByteArray), .string (⟨#[102, 115, 109]⟩ : ByteArray), .string (⟨#[99, 101, 97, 115, 101]⟩ : ByteArray)]) (ok := fun _ => True) (okp := fun _ => True) ?hr ?hp (fun _ hk => hk) trivial (Below.refl _ _) (Nat.le_refl _) (by simp) ?_; (case hd => rfl); (case hg => rfl); (case hr => first | (go_simp; done) | (go_simp; rfl)); (case hp => exact (Reps.one (show Kd.M Kd.string _ _ _ (⟨#[104, 101, 97, 100, 101, 114]⟩ : ByteArray) [.string (⟨#[104, 101, 97, 100, 101, 114]⟩ : ByteArray)] from rfl) (Reps.one (show Kd.M Kd.string _ _ _ (⟨#[111, 112, 101, 110]⟩ : ByteArray) [.string (⟨#[111, 112, 101, 110]⟩ : ByteArray)] from rfl) (Reps.one (show Kd.M Kd.string _ _ _ (⟨#[117, 112, 100, 97, 116, 101]⟩ : ByteArray) [.string (⟨#[117, 112, 100, 97, 116, 101]⟩ : ByteArray)] from rfl) (Reps.one (show Kd.M Kd.string _ _ _ (⟨#[104, 111, 108, 100]⟩ : ByteArray) [.string (⟨#[104, 111, 108, 100]⟩ : ByteArray)] from rfl) (Reps.one (show Kd.M Kd.string _ _ _ (⟨#[102, 115, 109]⟩ : ByteArray) [.string (⟨#[102, 115, 109]⟩ : ByteArray)] from rfl) (Reps.one (show Kd.M Kd.string _ _ _ (⟨#[99, 101, 97, 115, 101]⟩ : ByteArray) [.string (⟨#[99, 101, 97, 115, 101]⟩ : ByteArray)] from rfl) (Reps.none _ _)))))))); intro v162 w4 ho5 hb hg_ hnew_; clear hg_ hnew_; (first | rw [← Ny161.out] at ho5 | (simp only [Int.reduceToNat] at ho5; rw [← Ny161.out] at ho5)); have n0_ := Aside0.mk (Kd.R_lower ho5 (below_size (by repeat (first | (with_reducible first | exact HB.out | apply below_alloc | apply pw_below_drewN | apply below_drew1 | refine below_set ?_ GE160.out) | exact HB.out)))); have n1_ := Aside0.mk (blk_below (g := gb160) (o := .cells #[.int .i64 a0_0, .int .i64 a0_1, .slice A0_2 l0_2.length c0_2] 24 (0, 0)) (by (with_reducible repeat (first | refine blk_drewN ?_ _ | refine blk_drew ?_ | refine blk_alloc ?_ _)); exact BK160.out) hb); have n2_ := Aside0.mk (below_step (by repeat (first | (with_reducible first | exact HB.out | apply below_alloc | apply pw_below_drewN | apply below_drew1 | refine below_set ?_ GE160.out) | exact HB.out)) hb); clear BK160; clear HB; have HO163 := n0_; have BK160 := n1_; have HB := n2_; clear n0_ n1_ n2_; clear hb ho5))
 repeat (go_quiet (first | ((with_reducible refine gate_dst (N := 1) rfl ?_); refine box_event ?hg (N := 1) ?hd (cs := #[.int .i64 a0_0, .int .i64 a0_1, .slice A0_2 l0_2.length c0_2]) (t := 24) ?hr ?_; (case hd => rfl); (case hg => rfl); (case hr => first | (go_simp; done) | (go_simp; rfl)); intro gb160 hg w3 hbox hb; have n0_ := Aside0.mk (below_step (by repeat (first | (with_reducible first | exact HB.out | apply below_alloc | apply pw_below_drewN | apply below_drew1) | exact HB.out)) hb); have n1_ := Aside0.mk (hbox); have n2_ := Aside0.mk ((by rw [hg]; exact (below_size (by repeat (first | (with_reducible first | exact HB.out | apply below_alloc | apply pw_below_drewN | apply below_drew1) | exact HB.out))) : w.heap.size ≤ gb160)); have n3_ := Aside0.mk ((by rw [hg]; exact (below_size (by repeat (first | (with_reducible first | exact HB.out | apply below_alloc | apply pw_below_drewN | apply below_drew1) | exact HB.out))) : w.heap.size ≤ gb160)); clear HB; have HB := n0_; have BK160 := n1_; have GW160 := n2_; have GE160 := n3_; clear n0_ n1_ n2_ n3_; clear hb hbox hg) | ((with_reducible refine gate_dst (N := 4) rfl ?_); refine Kd.R_lit Kd.string _ 9 ?hg (N := 4) ?hd (xs := ([(⟨#[104, 101, 97, 100, 101, 114]⟩ : ByteArray), (⟨#[111, 112, 101, 110]⟩ : ByteArray), (⟨#[117, 112, 100, 97, 116, 101]⟩ : ByteArray), (⟨#[104, 111, 108, 100]⟩ : ByteArray), (⟨#[102, 115, 109]⟩ : ByteArray), (⟨#[99, 101, 97, 115, 101]⟩ : ByteArray)] : List ByteArray)) (inner := [.string (⟨#[104, 101, 97, 100, 101, 114]⟩ : ByteArray), .string (⟨#[111, 112, 101, 110]⟩ : ByteArray), .string (⟨#[117, 112, 100, 97, 116, 101]⟩ : ByteArray), .string (⟨#[104, 111, 108, 100]⟩ : ByteArray), .string (⟨#[102, 115, 109]⟩ : ByteArray), .string (⟨#[99, 101, 97, 115, 101]⟩ : ByteArray)]) (ok := fun _ => True) (okp := fun _ => True) ?hr ?hp (fun _ hk => hk) trivial (Below.refl _ _) (Nat.le_refl _) (by simp) ?_; (case hd => rfl); (case hg => rfl); (case hr => first | (go_simp; done) | (go_simp; rfl)); (case hp => exact (Reps.one (show Kd.M Kd.string _ _ _ (⟨#[104, 101, 97, 100, 101, 114]⟩ : ByteArray) [.string (⟨#[104, 101, 97, 100, 101, 114]⟩ : ByteArray)] from rfl) (Reps.one (show Kd.M Kd.string _ _ _ (⟨#[111, 112, 101, 110]⟩ : ByteArray) [.string (⟨#[111, 112, 101, 110]⟩ : ByteArray)] from rfl) (Reps.one (show Kd.M Kd.string _ _ _ (⟨#[117, 112, 100, 97, 116, 101]⟩ : ByteArray) [.string (⟨#[117, 112, 100, 97, 116, 101]⟩ : ByteArray)] from rfl) (Reps.one (show Kd.M Kd.string _ _ _ (⟨#[104, 111, 108, 100]⟩ : ByteArray) [.string (⟨#[104, 111, 108, 100]⟩ : ByteArray)] from rfl) (Reps.one (show Kd.M Kd.string _ _ _ (⟨#[102, 115, 109]⟩ : ByteArray) [.string (⟨#[102, 115, 109]⟩ : ByteArray)] from rfl) (Reps.one (show Kd.M Kd.string _ _ _ (⟨#[99, 101, 97, 115, 101]⟩ : ByteArray) [.string (⟨#[99, 101, 97, 115, 101]⟩ : ByteArray)] from rfl) (Reps.none _ _)))))))); intro v162 w4 ho5 hb hg_ hnew_; clear hg_ hnew_; (first | rw [← Ny161.out] at ho5 | (simp only [Int.reduceToNat] at ho5; rw [← Ny161.out] at ho5)); have n0_ := Aside0.mk (Kd.R_lower ho5 (below_size (by repeat (first | (with_reducible first | exact HB.out | apply below_alloc | apply pw_below_drewN | apply below_drew1 | refine below_set ?_ GE160.out) | exact HB.out)))); have n1_ := Aside0.mk (blk_below (g := gb160) (o := .cells #[.int .i64 a0_0, .int .i64 a0_1, .slice A0_2 l0_2.length c0_2] 24 (0, 0)) (by (with_reducible repeat (first | refine blk_drewN ?_ _ | refine blk_drew ?_ | refine blk_alloc ?_ _)); exact BK160.out) hb); have n2_ := Aside0.mk (below_step (by repeat (first | (with_reducible first | exact HB.out | apply below_alloc | apply pw_below_drewN | apply below_drew1 | refine below_set ?_ GE160.out) | exact HB.out)) hb); clear BK160; clear HB; have HO163 := n0_; have BK160 := n1_; have HB := n2_; clear n0_ n1_ n2_; clear hb ho5)); go_upto_region 2 with (first | ((with_reducible refine gate_dst (N := 1) rfl ?_); refine box_event ?hg (N := 1) ?hd (cs := #[.int .i64 a0_0, .int .i64 a0_1, .slice A0_2 l0_2.length c0_2]) (t := 24) ?hr ?_; (case hd => rfl); (case hg => rfl); (case hr => first | (go_simp; done) | (go_simp; rfl)); intro gb160 hg w3 hbox hb; have n0_ := Aside0.mk (below_step (by repeat (first | (with_reducible first | exact HB.out | apply below_alloc | apply pw_below_drewN | apply below_drew1) | exact HB.out)) hb); have n1_ := Aside0.mk (hbox); have n2_ := Aside0.mk ((by rw [hg]; exact (below_size (by repeat (first | (with_reducible first | exact HB.out | apply below_alloc | apply pw_below_drewN | apply below_drew1) | exact HB.out))) : w.heap.size ≤ gb160)); have n3_ := Aside0.mk ((by rw [hg]; exact (below_size (by repeat (first | (with_reducible first | exact HB.out | apply below_alloc | apply pw_below_drewN | apply below_drew1) | exact HB.out))) : w.heap.size ≤ gb160)); clear HB; have HB := n0_; have BK160 := n1_; have GW160 := n2_; have GE160 := n3_; clear n0_ n1_ n2_ n3_; clear hb hbox hg) | ((with_reducible refine gate_dst (N := 4) rfl ?_); refine Kd.R_lit Kd.string _ 9 ?hg (N := 4) ?hd (xs := ([(⟨#[104, 101, 97, 100, 101, 114]⟩ : ByteArray), (⟨#[111, 112, 101, 110]⟩ : ByteArray), (⟨#[117, 112, 100, 97, 116, 101]⟩ : ByteArray), (⟨#[104, 111, 108, 100]⟩ : ByteArray), (⟨#[102, 115, 109]⟩ : ByteArray), (⟨#[99, 101, 97, 115, 101]⟩ : ByteArray)] : List ByteArray)) (inner := [.string (⟨#[104, 101, 97, 100, 101, 114]⟩ : ByteArray), .string (⟨#[111, 112, 101, 110]⟩ : ByteArray), .string (⟨#[117, 112, 100, 97, 116, 101]⟩ : ByteArray), .string (⟨#[104, 111, 108, 100]⟩ : ByteArray), .string (⟨#[102, 115, 109]⟩ : ByteArray), .string (⟨#[99, 101, 97, 115, 101]⟩ : ByteArray)]) (ok := fun _ => True) (okp := fun _ => True) ?hr ?hp (fun _ hk => hk) trivial (Below.refl _ _) (Nat.le_refl _) (by simp) ?_; (case hd => rfl); (case hg => rfl); (case hr => first | (go_simp; done) | (go_simp; rfl)); (case hp => exact (Reps.one (show Kd.M Kd.string _ _ _ (⟨#[104, 101, 97, 100, 101, 114]⟩ : ByteArray) [.string (⟨#[104, 101, 97, 100, 101, 114]⟩ : ByteArray)] from rfl) (Reps.one (show Kd.M Kd.string _ _ _ (⟨#[111, 112, 101, 110]⟩ : ByteArray) [.string (⟨#[111, 112, 101, 110]⟩ : ByteArray)] from rfl) (Reps.one (show Kd.M Kd.string _ _ _ (⟨#[117, 112, 100, 97, 116, 101]⟩ : ByteArray) [.string (⟨#[117, 112, 100, 97, 116, 101]⟩ : ByteArray)] from rfl) (Reps.one (show Kd.M Kd.string _ _ _ (⟨#[104, 111, 108, 100]⟩ : ByteArray) [.string (⟨#[104, 111, 108, 100]⟩ : ByteArray)] from rfl) (Reps.one (show Kd.M Kd.string _ _ _ (⟨#[102, 115, 109]⟩ : ByteArray) [.string (⟨#[102, 115, 109]⟩ : ByteArray)] from rfl) (Reps.one (show Kd.M Kd.string _ _ _ (⟨#[99, 101, 97, 115, 101]⟩ : ByteArray) [.string (⟨#[99, 101, 97, 115, 101]⟩ : ByteArray)] from rfl) (Reps.none _ _)))))))); intro v162 w4 ho5 hb hg_ hnew_; clear hg_ hnew_; (first | rw [← Ny161.out] at ho5 | (simp only [Int.reduceToNat] at ho5; rw [← Ny161.out] at ho5)); have n0_ := Aside0.mk (Kd.R_lower ho5 (below_size (by repeat (first | (with_reducible first | exact HB.out | apply below_alloc | apply pw_below_drewN | apply below_drew1 | refine below_set ?_ GE160.out) | exact HB.out)))); have n1_ := Aside0.mk (blk_below (g := gb160) (o := .cells #[.int .i64 a0_0, .int .i64 a0_1, .slice A0_2 l0_2.length c0_2] 24 (0, 0)) (by (with_reducible repeat (first | refine blk_drewN ?_ _ | refine blk_drew ?_ | refine blk_alloc ?_ _)); exact BK160.out) hb); have n2_ := Aside0.mk (below_step (by repeat (first | (with_reducible first | exact HB.out | apply below_alloc | apply pw_below_drewN | apply below_drew1 | refine below_set ?_ GE160.out) | exact HB.out)) hb); clear BK160; clear HB; have HO163 := n0_; have BK160 := n1_; have HB := n2_; clear n0_ n1_ n2_; clear hb ho5)))
 (try simp only [Act.put, List.setIfInBounds_toArray, List.set_cons_zero, List.set_cons_succ])
 go_cut [12] (fun v12 wc => ∃ (kq : Nat) (x12_1 : Bool), v12 = .bool x12_1 ∧ Aside0 (ridgewayref05_Name.j0 kq y161 x12_1 a0_0 a0_1 l0_2 = some r) ∧ Aside0 (kq ≤ k) ∧ Aside0 (Kd.R Kd.string 9 wc w.heap.size (fun _ => True) v162 y161) ∧ Aside0 (wc.heap[gb160]? = some (.cells #[.int .i64 a0_0, .int .i64 a0_1, (.slice A0_2 l0_2.length c0_2)] 24 (0, 0))) ∧ Aside0 (Below w.heap.size w wc))
 case first =>
  have H := HC2.out
  clear HC2
  by_cases c6 : a0_0 ≥ 1
  ·rw [if_pos c6] at H
   have c6b0 : decide (1 ≤ a0_0) = true := decide_eq_true c6
   clear c6
   (first | rw [c6b0] | (simp only [i64_w, i32_w]; rw [c6b0]) | (have cw_ := c6b0; simp only [gt_iff_lt, ge_iff_le, Int.natCast_pos] at cw_; rw [cw_]; clear cw_) | skip)
   skip
   have H' := Aside0.mk H
   clear H
   have hcz7_0 : w4.cell? ⟨gb160, 0, none⟩ = some (.int .i64 a0_0) := (blk_cell BK160.out 0).trans rfl
   have hcz7_1 : w4.cell? ⟨gb160, 1, none⟩ = some (.int .i64 a0_1) := (blk_cell BK160.out 1).trans rfl
   have hcz7_2 : w4.cell? ⟨gb160, 2, none⟩ = some (.slice A0_2 l0_2.length c0_2) := (blk_cell BK160.out 2).trans rfl
   have hfz7_0 := blk_frozen BK160.out 0
   have hfz7_1 := blk_frozen BK160.out 1
   have hfz7_2 := blk_frozen BK160.out 2
   go_wp2
   repeat (go_quiet (fail); try go_wp2)
   go_meet
   case rel => exact ⟨_, (decide (a0_0 ≤ 6)), (by first | rfl | (simp; done) | (simp [*]; done)), H', ⟨by first | omega | exact Nat.le_refl _⟩, ⟨by (with_reducible repeat (first | apply Kd.R_alloc | apply Kd.R_drewN | apply Kd.R_drew)); exact HO163.out⟩, ⟨by (with_reducible repeat (first | refine blk_drewN ?_ _ | refine blk_drew ?_ | refine blk_alloc ?_ _)); exact BK160.out⟩, ⟨by repeat (first | (with_reducible first | exact HB.out | apply below_alloc | apply pw_below_drewN | apply below_drew1 | refine below_set ?_ GE160.out) | exact HB.out)⟩⟩
  ·rw [if_neg c6] at H
   have c6b0 : decide (1 ≤ a0_0) = false := decide_eq_false c6
   clear c6
   (first | rw [c6b0] | (simp only [i64_w, i32_w]; rw [c6b0]) | (have cw_ := c6b0; simp only [gt_iff_lt, ge_iff_le, Int.natCast_pos] at cw_; rw [cw_]; clear cw_) | skip)
   skip
   have H' := Aside0.mk H
   clear H
   have hcz8_0 : w4.cell? ⟨gb160, 0, none⟩ = some (.int .i64 a0_0) := (blk_cell BK160.out 0).trans rfl
   have hcz8_1 : w4.cell? ⟨gb160, 1, none⟩ = some (.int .i64 a0_1) := (blk_cell BK160.out 1).trans rfl
   have hcz8_2 : w4.cell? ⟨gb160, 2, none⟩ = some (.slice A0_2 l0_2.length c0_2) := (blk_cell BK160.out 2).trans rfl
   have hfz8_0 := blk_frozen BK160.out 0
   have hfz8_1 := blk_frozen BK160.out 1
   have hfz8_2 := blk_frozen BK160.out 2
   go_wp2
   repeat (go_quiet (fail); try go_wp2)
   go_meet
   case rel => exact ⟨_, (false), (by first | rfl | (simp; done) | (simp [*]; done)), H', ⟨by first | omega | exact Nat.le_refl _⟩, ⟨by (with_reducible repeat (first | apply Kd.R_alloc | apply Kd.R_drewN | apply Kd.R_drew)); exact HO163.out⟩, ⟨by (with_reducible repeat (first | refine blk_drewN ?_ _ | refine blk_drew ?_ | refine blk_alloc ?_ _)); exact BK160.out⟩, ⟨by repeat (first | (with_reducible first | exact HB.out | apply below_alloc | apply pw_below_drewN | apply below_drew1 | refine below_set ?_ GE160.out) | exact HB.out)⟩⟩
 case rest =>
  clear HC2
  try clear c1
  try clear p2
  try clear c6
  try clear c6b0
  try clear hcz7_0
  try clear hcz7_1
  try clear hcz7_2
  try clear hcz8_0
  try clear hcz8_1
  try clear hcz8_2
  try clear hfz7_0
  try clear hfz7_1
  try clear hfz7_2
  try clear hfz8_0
  try clear hfz8_1
  try clear hfz8_2
  obtain ⟨kq, x12_1, rfl, HA, HJ1, HO_3, BK160, HB⟩ := hcut
  cases kq with
  | zero => exact absurd HA.out (by simp [ridgewayref05_Name.j0])
  | succ kj1 =>
   have H := HA.out
   clear HA
   simp only [ridgewayref05_Name.j0] at H
   by_cases c9 : x12_1 = true
   ·subst c9
    have H1 : (if 0 ≤ (wrap64 (a0_0 - 1)) then (if (wrap64 (a0_0 - 1)) < (y161.length : Int) then (if (rdOf ByteArray.empty y161 (wrap64 (a0_0 - 1))).size + 1 ≤ 9223372036854775807 then ((ridgewayref05_digits.f kj1 a0_1).bind fun t165 => (if ((rdOf ByteArray.empty y161 (wrap64 (a0_0 - 1))) ++ (⟨#[47]⟩ : ByteArray)).size + t165.size ≤ 9223372036854775807 then (some (((rdOf ByteArray.empty y161 (wrap64 (a0_0 - 1))) ++ (⟨#[47]⟩ : ByteArray)) ++ t165)) else (none))) else (none)) else (none)) else (none)) = some r := by rw [if_pos rfl] at H; exact H
    clear H
    have H := H1
    clear H1
    obtain ⟨ji10, hji10⟩ : ∃ j_ : Int, (wrap64 (a0_0 - 1)) = j_ := ⟨_, rfl⟩
    replace H : (if 0 ≤ (ji10) then (if (ji10) < (y161.length : Int) then (if (rdOf ByteArray.empty y161 (ji10)).size + 1 ≤ 9223372036854775807 then ((ridgewayref05_digits.f kj1 a0_1).bind fun t165 => (if ((rdOf ByteArray.empty y161 (ji10)) ++ (⟨#[47]⟩ : ByteArray)).size + t165.size ≤ 9223372036854775807 then (some (((rdOf ByteArray.empty y161 (ji10)) ++ (⟨#[47]⟩ : ByteArray)) ++ t165)) else (none))) else (none)) else (none)) else (none)) = some r := by first | (rw [hji10] at H; exact H) | (simp only [hji10] at H ⊢; exact H)
    have hji10w : (IntKind.i64.wrap (a0_0 - 1)) = ji10 := (i64_w _).trans hji10
    by_cases c11 : 0 ≤ (ji10)
    ·rw [if_pos c11] at H
     have c11b0 : decide (0 ≤ (ji10)) = true := decide_eq_true c11
     clear c11
     by_cases c12 : (ji10) < (y161.length : Int)
     ·rw [if_pos c12] at H
      have c12b0 : decide ((ji10) < (y161.length : Int)) = true := decide_eq_true c12
      clear c12
      by_cases c13 : (rdOf ByteArray.empty y161 (ji10)).size + 1 ≤ 9223372036854775807
      ·rw [if_pos c13] at H
       have c13b0 := eq_true c13
       have c13b1 : decide ((rdOf ByteArray.empty y161 (ji10)).size + 1 ≤ 9223372036854775807) = true := decide_eq_true c13
       try have c13b2 : (9223372036854775807 < (rdOf ByteArray.empty y161 (ji10)).size + 1) = False := eq_false (Nat.not_lt.2 c13)
       replace H := Option.bind_eq_some_iff.mp H
       obtain ⟨t165, A140, H⟩ := H
       replace H : (if ((rdOf ByteArray.empty y161 (ji10)) ++ (⟨#[47]⟩ : ByteArray)).size + t165.size ≤ 9223372036854775807 then (some (((rdOf ByteArray.empty y161 (ji10)) ++ (⟨#[47]⟩ : ByteArray)) ++ t165)) else (none)) = some r := H
       have A14 := Aside0.mk A140
       clear A140
       by_cases c15 : ((rdOf ByteArray.empty y161 (ji10)) ++ (⟨#[47]⟩ : ByteArray)).size + t165.size ≤ 9223372036854775807
       ·rw [if_pos c15] at H
        have c15b0 := eq_true c15
        have c15b1 : decide (((rdOf ByteArray.empty y161 (ji10)) ++ (⟨#[47]⟩ : ByteArray)).size + t165.size ≤ 9223372036854775807) = true := decide_eq_true c15
        try have c15b2 : (9223372036854775807 < ((rdOf ByteArray.empty y161 (ji10)) ++ (⟨#[47]⟩ : ByteArray)).size + t165.size) = False := eq_false (Nat.not_lt.2 c15)
        obtain rfl := Option.some.inj H
        have hcz16_0 : wc.cell? ⟨gb160, 0, none⟩ = some (.int .i64 a0_0) := (blk_cell BK160.out 0).trans rfl
        have hcz16_1 : wc.cell? ⟨gb160, 1, none⟩ = some (.int .i64 a0_1) := (blk_cell BK160.out 1).trans rfl
        have hcz16_2 : wc.cell? ⟨gb160, 2, none⟩ = some (.slice A0_2 l0_2.length c0_2) := (blk_cell BK160.out 2).trans rfl
        have hfz16_0 := blk_frozen BK160.out 0
        have hfz16_1 := blk_frozen BK160.out 1
        have hfz16_2 := blk_frozen BK160.out 2
        obtain ⟨Ao17, co17, eo17⟩ := Kd.R_slice HO_3.out
        subst eo17
        have p164 : 0 ≤ ((ji10) : Int) := of_decide_eq_true (by first | (with_reducible assumption) | assumption)
        have q164 : (ji10) < (y161.length : Int) := of_decide_eq_true (by first | (with_reducible assumption) | assumption)
        obtain ⟨ad164, e164, hx164_0⟩ := Kd.at_string (Kd.R_reads' HO_3.out).2.2 (ji10) p164 q164
        cases e164
        replace p164 := eq_true p164
        replace q164 := eq_true q164
        go_wp2_with (first | (go_at_call 24; (with_reducible refine (ridgewayref05_digits.calls kj1 a0_1 t165 _ A14.out).mono ?_); rintro e w' ⟨rfl, ⟨nd, rfl⟩⟩; (try first | exact ⟨rfl, _, World.drewN_drewN _ _ _⟩ | exact ⟨rfl, _, Eq.trans (World.drewN_drewN _ _ _) (congrArg (World.drewN _) (Nat.add_assoc _ _ _))⟩)))
        repeat (go_quiet (first | (go_at_call 24; (with_reducible refine (ridgewayref05_digits.calls kj1 a0_1 t165 _ A14.out).mono ?_); rintro e w' ⟨rfl, ⟨nd, rfl⟩⟩; (try first | exact ⟨rfl, _, World.drewN_drewN _ _ _⟩ | exact ⟨rfl, _, Eq.trans (World.drewN_drewN _ _ _) (congrArg (World.drewN _) (Nat.add_assoc _ _ _))⟩))); try go_wp2_with (first | (go_at_call 24; (with_reducible refine (ridgewayref05_digits.calls kj1 a0_1 t165 _ A14.out).mono ?_); rintro e w' ⟨rfl, ⟨nd, rfl⟩⟩; (try first | exact ⟨rfl, _, World.drewN_drewN _ _ _⟩ | exact ⟨rfl, _, Eq.trans (World.drewN_drewN _ _ _) (congrArg (World.drewN _) (Nat.add_assoc _ _ _))⟩))))
        go_ret
        exact ⟨by first | rfl | (simp [errW_none, errW_some] <;> rfl) | (simp only [← hji10]; first | rfl | (simp [errW_none, errW_some] <;> rfl)) | (simp [*, errW_none, errW_some] <;> rfl), by repeat (first | (with_reducible first | exact HB.out | apply below_alloc | apply pw_below_drewN | apply below_drew1 | refine below_set ?_ GE160.out) | exact HB.out)⟩
       ·rw [if_neg c15] at H
        exact absurd H (by simp)
      ·rw [if_neg c13] at H
       exact absurd H (by simp)
     ·rw [if_neg c12] at H
      exact absurd H (by simp)
    ·rw [if_neg c11] at H
     exact absurd H (by simp)
   ·replace c9 := Bool.eq_false_iff.mpr c9
    subst c9
    have H1 : ((ridgewayref05_digits.f kj1 a0_0).bind fun t166 => (if t166.size + 1 ≤ 9223372036854775807 then ((ridgewayref05_digits.f kj1 a0_1).bind fun t167 => (if (t166 ++ (⟨#[47]⟩ : ByteArray)).size + t167.size ≤ 9223372036854775807 then (some ((t166 ++ (⟨#[47]⟩ : ByteArray)) ++ t167)) else (none))) else (none))) = some r := by rw [if_neg (show ¬ (false = true) by decide)] at H; exact H
    clear H
    have H := H1
    clear H1
    replace H := Option.bind_eq_some_iff.mp H
    obtain ⟨t166, A180, H⟩ := H
    replace H : (if t166.size + 1 ≤ 9223372036854775807 then ((ridgewayref05_digits.f kj1 a0_1).bind fun t167 => (if (t166 ++ (⟨#[47]⟩ : ByteArray)).size + t167.size ≤ 9223372036854775807 then (some ((t166 ++ (⟨#[47]⟩ : ByteArray)) ++ t167)) else (none))) else (none)) = some r := H
    have A18 := Aside0.mk A180
    clear A180
    by_cases c19 : t166.size + 1 ≤ 9223372036854775807
    ·rw [if_pos c19] at H
     have c19b0 := eq_true c19
     have c19b1 : decide (t166.size + 1 ≤ 9223372036854775807) = true := decide_eq_true c19
     try have c19b2 : (9223372036854775807 < t166.size + 1) = False := eq_false (Nat.not_lt.2 c19)
     replace H := Option.bind_eq_some_iff.mp H
     obtain ⟨t167, A200, H⟩ := H
     replace H : (if (t166 ++ (⟨#[47]⟩ : ByteArray)).size + t167.size ≤ 9223372036854775807 then (some ((t166 ++ (⟨#[47]⟩ : ByteArray)) ++ t167)) else (none)) = some r := H
     have A20 := Aside0.mk A200
     clear A200
     by_cases c21 : (t166 ++ (⟨#[47]⟩ : ByteArray)).size + t167.size ≤ 9223372036854775807
     ·rw [if_pos c21] at H
      have c21b0 := eq_true c21
      have c21b1 : decide ((t166 ++ (⟨#[47]⟩ : ByteArray)).size + t167.size ≤ 9223372036854775807) = true := decide_eq_true c21
      try have c21b2 : (9223372036854775807 < (t166 ++ (⟨#[47]⟩ : ByteArray)).size + t167.size) = False := eq_false (Nat.not_lt.2 c21)
      obtain rfl := Option.some.inj H
      have hcz22_0 : wc.cell? ⟨gb160, 0, none⟩ = some (.int .i64 a0_0) := (blk_cell BK160.out 0).trans rfl
      have hcz22_1 : wc.cell? ⟨gb160, 1, none⟩ = some (.int .i64 a0_1) := (blk_cell BK160.out 1).trans rfl
      have hcz22_2 : wc.cell? ⟨gb160, 2, none⟩ = some (.slice A0_2 l0_2.length c0_2) := (blk_cell BK160.out 2).trans rfl
      have hfz22_0 := blk_frozen BK160.out 0
      have hfz22_1 := blk_frozen BK160.out 1
      have hfz22_2 := blk_frozen BK160.out 2
      go_wp2_with (first | (go_at_call 24; (with_reducible refine (ridgewayref05_digits.calls kj1 a0_0 t166 _ A18.out).mono ?_); rintro e w' ⟨rfl, ⟨nd, rfl⟩⟩; (try first | exact ⟨rfl, _, World.drewN_drewN _ _ _⟩ | exact ⟨rfl, _, Eq.trans (World.drewN_drewN _ _ _) (congrArg (World.drewN _) (Nat.add_assoc _ _ _))⟩)) | (go_at_call 24; (with_reducible refine (ridgewayref05_digits.calls kj1 a0_1 t167 _ A20.out).mono ?_); rintro e w' ⟨rfl, ⟨nd, rfl⟩⟩; (try first | exact ⟨rfl, _, World.drewN_drewN _ _ _⟩ | exact ⟨rfl, _, Eq.trans (World.drewN_drewN _ _ _) (congrArg (World.drewN _) (Nat.add_assoc _ _ _))⟩)))
      repeat (go_quiet (first | (go_at_call 24; (with_reducible refine (ridgewayref05_digits.calls kj1 a0_0 t166 _ A18.out).mono ?_); rintro e w' ⟨rfl, ⟨nd, rfl⟩⟩; (try first | exact ⟨rfl, _, World.drewN_drewN _ _ _⟩ | exact ⟨rfl, _, Eq.trans (World.drewN_drewN _ _ _) (congrArg (World.drewN _) (Nat.add_assoc _ _ _))⟩)) | (go_at_call 24; (with_reducible refine (ridgewayref05_digits.calls kj1 a0_1 t167 _ A20.out).mono ?_); rintro e w' ⟨rfl, ⟨nd, rfl⟩⟩; (try first | exact ⟨rfl, _, World.drewN_drewN _ _ _⟩ | exact ⟨rfl, _, Eq.trans (World.drewN_drewN _ _ _) (congrArg (World.drewN _) (Nat.add_assoc _ _ _))⟩))); try go_wp2_with (first | (go_at_call 24; (with_reducible refine (ridgewayref05_digits.calls kj1 a0_0 t166 _ A18.out).mono ?_); rintro e w' ⟨rfl, ⟨nd, rfl⟩⟩; (try first | exact ⟨rfl, _, World.drewN_drewN _ _ _⟩ | exact ⟨rfl, _, Eq.trans (World.drewN_drewN _ _ _) (congrArg (World.drewN _) (Nat.add_assoc _ _ _))⟩)) | (go_at_call 24; (with_reducible refine (ridgewayref05_digits.calls kj1 a0_1 t167 _ A20.out).mono ?_); rintro e w' ⟨rfl, ⟨nd, rfl⟩⟩; (try first | exact ⟨rfl, _, World.drewN_drewN _ _ _⟩ | exact ⟨rfl, _, Eq.trans (World.drewN_drewN _ _ _) (congrArg (World.drewN _) (Nat.add_assoc _ _ _))⟩))))
      go_ret
      exact ⟨by first | rfl | (simp [errW_none, errW_some] <;> rfl) | (simp [*, errW_none, errW_some] <;> rfl), by repeat (first | (with_reducible first | exact HB.out | apply below_alloc | apply pw_below_drewN | apply below_drew1 | refine below_set ?_ GE160.out) | exact HB.out)⟩
     ·rw [if_neg c21] at H
      exact absurd H (by simp)
    ·rw [if_neg c19] at H
     exact absurd H (by simp)

end Go.Proofs.YtjelhhmnpodlkaaDoor.PAll
