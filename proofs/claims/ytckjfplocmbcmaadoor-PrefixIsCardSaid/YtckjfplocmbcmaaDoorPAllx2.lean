-- Written by a program of this session's (wip/tools), out of the translation. Lean checks it.
import Derived.Test.YtckjfplocmbcmaaDoorPAllx0
namespace Go.Proofs.YtckjfplocmbcmaaDoor.PAll
open Go.RowKit Go.Proofs.YtckjfplocmbcmaaDoorW.PrintWords Go.Proofs.YtckjfplocmbcmaaDoorW.PrintLast Go.Proofs.YtckjfplocmbcmaaDoorW.PrintMore
attribute [local go_sem] max2_int min2_int max_two min_two max_three min_three max_four min_four   -- for this text's walks alone
set_option linter.unusedVariables false
set_option linter.unusedSimpArgs false

/-! ### prefix_Mask: function 18 -/
def prefix_Mask.f (a0 : Int) (a1 : Int) : Option (Int) := some (wrap64 (((Go.bits .and .i64 a0 4294967295) / 2 ^ (32 - (mx 0 (mn a1 32))).toNat) * 2 ^ (32 - (mx 0 (mn a1 32))).toNat))
set_option maxHeartbeats 8000000 in
set_option maxRecDepth 100000 in
theorem prefix_Mask.calls (a0 : Int) (a1 : Int) (r : Int) (w : World) (h : prefix_Mask.f a0 a1 = some r) :
  Calls Tryd.prog 18 #[.int .i64 a0, .int .i64 a1] w fun e w' => e = .returned (.int .i64 r) ∧ Below w.heap.size w w' := by
 have HB := Aside0.mk (Below.refl w.heap.size w)
 have H : (some (wrap64 (((Go.bits .and .i64 a0 4294967295) / 2 ^ (32 - (mx 0 (mn a1 32))).toNat) * 2 ^ (32 - (mx 0 (mn a1 32))).toNat))) = some r := h
 clear h
 obtain ⟨ji3, hji3⟩ : ∃ j_ : Int, (mn a1 32) = j_ := ⟨_, rfl⟩
 replace H : (some (wrap64 (((Go.bits .and .i64 a0 4294967295) / 2 ^ (32 - (mx 0 (ji3))).toNat) * 2 ^ (32 - (mx 0 (ji3))).toNat))) = some r := by first | (rw [hji3] at H; exact H) | (simp only [hji3] at H ⊢; exact H)
 (try (have hji3h : ji3 ≤ 32 := by (rw [← hji3]; unfold mn; (repeat' split) <;> omega)))
 (try (have hji3g : ji3 ≤ 64 := by omega))
 have hji3_ : (if 32 < a1 then 32 else a1) = ji3 := hji3
 obtain ⟨ji4, hji4⟩ : ∃ j_ : Int, (mx 0 (ji3)) = j_ := ⟨_, rfl⟩
 replace H : (some (wrap64 (((Go.bits .and .i64 a0 4294967295) / 2 ^ (32 - (ji4)).toNat) * 2 ^ (32 - (ji4)).toNat))) = some r := by first | (rw [hji4] at H; exact H) | (simp only [hji4] at H ⊢; exact H)
 have hji4_ : (if 0 < (ji3) then (ji3) else 0) = ji4 := hji4
 obtain rfl := Option.some.inj H
 go_enter Tryd.func18, Tryd.ntmps18
 go_wp2
 go_ret
 exact ⟨by first | rfl | (simp [errW_none, errW_some] <;> rfl) | (simp only [← hji3, ← hji4]; first | rfl | (simp [errW_none, errW_some] <;> rfl)) | (simp [*, errW_none, errW_some] <;> rfl), by repeat (first | (with_reducible first | exact HB.out | apply below_alloc | apply pw_below_drewN | apply below_drew1) | exact HB.out)⟩

/-! ### octet_Get: function 30 -/
mutual
def octet_Get.j0 : Nat → List Int → Int → Bool → Option (Int × List Int × Bool)
 | 0, _, _, _ => none
 | k + 1, x0, x1, x20 => if x20 = true then (some (0, ([] : List Int), false)) else (octet_Get.l0 k x0 x1 0 x1 0)
def octet_Get.l0 : Nat → List Int → Int → Int → Int → Int → Option (Int × List Int × Bool)
 | 0, _, _, _, _, _ => none
 | k + 1, x0, x1, x7, x21, x22 => if x22 < x21 then (if 0 ≤ x22 then (if x22 < (x0.length : Int) then (octet_Get.l0 k x0 x1 (Go.bits .or .i64 (wrap64 (x7 * 256)) (wrap64 (rd x0 x22))) x21 (wrap64 (x22 + 1))) else (none)) else (none)) else (if 0 ≤ x1 then (if x1 ≤ (x0.length : Int) then (some (x7, (x0.drop (x1 : Int).toNat), true)) else (none)) else (none))
end
def octet_Get.f (k : Nat) (l0 : List Int) (a1 : Int) : Option (Int × List Int × Bool) := if a1 < 1 then (octet_Get.j0 k l0 a1 true) else (if a1 > 4 then (octet_Get.j0 k l0 a1 true) else (octet_Get.j0 k l0 a1 (decide ((l0.length : Int) < a1))))
theorem octet_Get.mono_l : ∀ k, (∀ y0 y1 y2, LeO (octet_Get.j0 k y0 y1 y2) (octet_Get.j0 (k + 1) y0 y1 y2)) ∧ (∀ y0 y1 y2 y3 y4, LeO (octet_Get.l0 k y0 y1 y2 y3 y4) (octet_Get.l0 (k + 1) y0 y1 y2 y3 y4))
 | 0 => ⟨fun _ _ _ r h => by simp [octet_Get.j0] at h, fun _ _ _ _ _ r h => by simp [octet_Get.l0] at h⟩
 | k + 1 => by
  obtain ⟨ih0, ih1⟩ := octet_Get.mono_l k
  refine ⟨?_, ?_⟩
  ·intro y0 y1 y2
   unfold octet_Get.j0
   repeat' first
   | (with_reducible exact ih0 _ _ _)
   | (with_reducible exact ih1 _ _ _ _ _)
   | (with_reducible exact LeO.refl _)
   | (with_reducible exact LeO.none _)
   | (with_reducible refine LeO.ite ?_ ?_)
   | (with_reducible refine LeO.bind ?_ (fun _ => ?_))
   | exact ih0 _ _ _
   | exact ih1 _ _ _ _ _
   | exact LeO.none _
   | refine LeO.ite ?_ ?_
   | refine LeO.bind ?_ (fun _ => ?_)
  ·intro y0 y1 y2 y3 y4
   unfold octet_Get.l0
   repeat' first
   | (with_reducible exact ih0 _ _ _)
   | (with_reducible exact ih1 _ _ _ _ _)
   | (with_reducible exact LeO.refl _)
   | (with_reducible exact LeO.none _)
   | (with_reducible refine LeO.ite ?_ ?_)
   | (with_reducible refine LeO.bind ?_ (fun _ => ?_))
   | exact ih0 _ _ _
   | exact ih1 _ _ _ _ _
   | exact LeO.none _
   | refine LeO.ite ?_ ?_
   | refine LeO.bind ?_ (fun _ => ?_)
theorem octet_Get.mono : ∀ a0 a1 k, LeO (octet_Get.f k a0 a1) (octet_Get.f (k + 1) a0 a1) := by
 intro a0 a1 k
 obtain ⟨ih0, ih1⟩ := octet_Get.mono_l k
 unfold octet_Get.f
 repeat' first
   | (with_reducible exact ih0 _ _ _)
   | (with_reducible exact ih1 _ _ _ _ _)
   | (with_reducible exact LeO.refl _)
   | (with_reducible exact LeO.none _)
   | (with_reducible refine LeO.ite ?_ ?_)
   | (with_reducible refine LeO.bind ?_ (fun _ => ?_))
   | exact ih0 _ _ _
   | exact ih1 _ _ _ _ _
   | exact LeO.none _
   | refine LeO.ite ?_ ?_
   | refine LeO.bind ?_ (fun _ => ?_)
set_option maxHeartbeats 8000000 in
set_option maxRecDepth 100000 in
theorem octet_Get.calls (k : Nat) (P0_ : Nat → Prop) (A0 : Option Addr) (c0 : Nat) (l0 : List Int) (a1 : Int) (r1 : Int) (r2 : List Int) (r3 : Bool) (w : World) (hs0 : Kd.V (Kd.int .u8) 5 w w.heap.size (fun k_ => P0_ k_) (.slice A0 l0.length c0) l0) (h : octet_Get.f k l0 a1 = some (r1, r2, r3)) :
  Calls Tryd.prog 30 #[.slice A0 l0.length c0, .int .i64 a1] w fun e w' => ∃ v1_ : Value, e = .returned (.tuple #[.int .i64 r1, v1_, .bool r3]) ∧ Kd.V (Kd.int .u8) 5 w' w.heap.size (fun k_ => (P0_ k_ ∨ w.heap.size ≤ k_)) v1_ r2 ∧ Below w.heap.size w w' := by
 have HO0 := Aside0.mk (show Kd.V (Kd.int .u8) 5 w w.heap.size (fun k_ => (P0_ k_ ∨ w.heap.size ≤ k_)) (.slice A0 l0.length c0) l0 from Kd.V_mono hs0 (fun k_ hk => .inl hk))
 have HB := Aside0.mk (Below.refl w.heap.size w)
 have H : (if a1 < 1 then (octet_Get.j0 k l0 a1 true) else (if a1 > 4 then (octet_Get.j0 k l0 a1 true) else (octet_Get.j0 k l0 a1 (decide ((l0.length : Int) < a1))))) = some (r1, r2, r3) := h
 clear h
 have HC3 := Aside0.mk H
 clear H
 go_enter Tryd.func30, Tryd.ntmps30
 go_upto_region 1 with (fail)
 repeat (go_quiet (fail); go_upto_region 1 with (fail))
 go_cut [20] (fun v20 wc => ∃ (kq : Nat) (x20_2 : Bool), v20 = .bool x20_2 ∧ Aside0 (octet_Get.j0 kq l0 a1 x20_2 = some (r1, r2, r3)) ∧ Aside0 (kq ≤ k) ∧ Aside0 (Kd.V (Kd.int .u8) 5 wc w.heap.size (fun k_ => (P0_ k_ ∨ w.heap.size ≤ k_)) (.slice A0 l0.length c0) l0) ∧ Aside0 (Below w.heap.size w wc))
 case first =>
  have H := HC3.out
  clear HC3
  by_cases c4 : a1 < 1
  ·rw [if_pos c4] at H
   have c4b0 : decide (a1 < 1) = true := decide_eq_true c4
   clear c4
   (first | (rw [c4b0]; skip) | (have cw_ := c4b0; simp only [gt_iff_lt, ge_iff_le, Int.natCast_pos] at cw_; rw [cw_]; clear cw_; skip) | skip)
   have H' := Aside0.mk H
   clear H
   go_wp2
   repeat (go_quiet (fail); try go_wp2)
   go_meet
   case rel => exact ⟨_, (true), (by first | rfl | (simp; done) | (simp [*]; done)), H', ⟨by first | omega | exact Nat.le_refl _⟩, ⟨by (with_reducible repeat (first | apply Kd.V_alloc | apply Kd.V_drewN | apply Kd.V_drew)); exact HO0.out⟩, ⟨by repeat (first | (with_reducible first | exact HB.out | apply below_alloc | apply pw_below_drewN | apply below_drew1) | exact HB.out)⟩⟩
  ·rw [if_neg c4] at H
   have c4b0 : decide (a1 < 1) = false := decide_eq_false c4
   clear c4
   (first | (rw [c4b0]; skip) | (have cw_ := c4b0; simp only [gt_iff_lt, ge_iff_le, Int.natCast_pos] at cw_; rw [cw_]; clear cw_; skip) | skip)
   by_cases c5 : a1 > 4
   ·rw [if_pos c5] at H
    have c5b0 : decide (4 < a1) = true := decide_eq_true c5
    clear c5
    have H' := Aside0.mk H
    clear H
    go_wp2
    repeat (go_quiet (fail); try go_wp2)
    go_meet
    case rel => exact ⟨_, (true), (by first | rfl | (simp; done) | (simp [*]; done)), H', ⟨by first | omega | exact Nat.le_refl _⟩, ⟨by (with_reducible repeat (first | apply Kd.V_alloc | apply Kd.V_drewN | apply Kd.V_drew)); exact HO0.out⟩, ⟨by repeat (first | (with_reducible first | exact HB.out | apply below_alloc | apply pw_below_drewN | apply below_drew1) | exact HB.out)⟩⟩
   ·rw [if_neg c5] at H
    have c5b0 : decide (4 < a1) = false := decide_eq_false c5
    clear c5
    have H' := Aside0.mk H
    clear H
    go_wp2
    repeat (go_quiet (fail); try go_wp2)
    go_meet
    case rel => exact ⟨_, (decide ((l0.length : Int) < a1)), (by first | rfl | (simp; done) | (simp [*]; done)), H', ⟨by first | omega | exact Nat.le_refl _⟩, ⟨by (with_reducible repeat (first | apply Kd.V_alloc | apply Kd.V_drewN | apply Kd.V_drew)); exact HO0.out⟩, ⟨by repeat (first | (with_reducible first | exact HB.out | apply below_alloc | apply pw_below_drewN | apply below_drew1) | exact HB.out)⟩⟩
 case rest =>
  clear HC3
  try clear p2
  try clear c3
  try clear c4
  try clear c4b0
  try clear c5
  try clear c5b0
  obtain ⟨kq, x20_2, rfl, HA, HJ2, HO_0, HB⟩ := hcut
  cases kq with
  | zero => exact absurd HA.out (by simp [octet_Get.j0])
  | succ kj2 =>
   have H := HA.out
   clear HA
   simp only [octet_Get.j0] at H
   by_cases c6 : x20_2 = true
   ·subst c6
    have H1 : (some (0, ([] : List Int), false)) = some (r1, r2, r3) := by rw [if_pos rfl] at H; exact H
    clear H
    have H := H1
    clear H1
    simp only [Option.some.injEq, Prod.mk.injEq] at H
    obtain ⟨rfl, rfl, rfl⟩ := H
    go_wp2
    repeat (go_quiet (fail); try go_wp2)
    go_ret3
    exact ⟨_, by first | rfl | (simp [errW_none, errW_some] <;> rfl) | (simp [*, errW_none, errW_some] <;> rfl), Kd.V_nil _ _ _ _ _, by repeat (first | (with_reducible first | exact HB.out | apply below_alloc | apply pw_below_drewN | apply below_drew1) | exact HB.out)⟩
   ·replace c6 := Bool.eq_false_iff.mpr c6
    subst c6
    have H1 : (octet_Get.l0 kj2 l0 a1 0 a1 0) = some (r1, r2, r3) := by rw [if_neg (show ¬ (false = true) by decide)] at H; exact H
    clear H
    have H := H1
    clear H1
    have H' := Aside0.mk H
    clear H
    go_wp2
    repeat (go_quiet (fail); try go_wp2)
    go_loopg [7, 22] kj2 (fun kq v7 v22 w' => ∃ (x7_2 : Int) (x22_2 : Int), v7 = .int .i64 x7_2 ∧ v22 = .int .i64 x22_2 ∧ Aside0 (octet_Get.l0 kq l0 a1 x7_2 a1 x22_2 = some (r1, r2, r3)) ∧ Aside0 (kq ≤ kj2) ∧ Aside0 (Kd.V (Kd.int .u8) 5 w' w.heap.size (fun k_ => (P0_ k_ ∨ w.heap.size ≤ k_)) (.slice A0 l0.length c0) l0) ∧ Aside0 (Below w.heap.size w w'))
    case atStart => exact ⟨(0), (0), (by first | rfl | (simp; done) | (simp [*]; done)), (by first | rfl | (simp; done) | (simp [*]; done)), H', ⟨Nat.le_refl _⟩, ⟨by (with_reducible repeat (first | apply Kd.V_alloc | apply Kd.V_drewN | apply Kd.V_drew)); exact HO_0.out⟩, ⟨by repeat (first | (with_reducible first | exact HB.out | apply below_alloc | apply pw_below_drewN | apply below_drew1) | exact HB.out)⟩⟩
    case round =>
     clear H'
     try clear p2
     try clear c3
     try clear c4
     try clear c4b0
     try clear c5
     try clear c5b0
     try clear c6
     try clear p2
     obtain ⟨x7_2, x22_2, rfl, rfl, HA, HK2, HO_0, HB⟩ := hrel
     cases gk with
     | zero => exact absurd HA.out (by simp [octet_Get.l0])
     | succ k2 =>
      have H := HA.out
      clear HA
      simp only [octet_Get.l0] at H
      by_cases c7 : x22_2 < a1
      ·rw [if_pos c7] at H
       have c7b0 : decide (x22_2 < a1) = true := decide_eq_true c7
       clear c7
       by_cases c8 : 0 ≤ x22_2
       ·rw [if_pos c8] at H
        have c8b0 : decide (0 ≤ x22_2) = true := decide_eq_true c8
        clear c8
        by_cases c9 : x22_2 < (l0.length : Int)
        ·rw [if_pos c9] at H
         have c9b0 : decide (x22_2 < (l0.length : Int)) = true := decide_eq_true c9
         clear c9
         have H' := Aside0.mk H
         clear H
         have p101 : 0 ≤ (x22_2 : Int) := of_decide_eq_true (by first | (with_reducible assumption) | assumption)
         have q101 : x22_2 < (l0.length : Int) := of_decide_eq_true (by first | (with_reducible assumption) | assumption)
         obtain ⟨ad101, e101, hx101_0⟩ := Kd.at_int (Kd.V_reads' HO_0.out).2.2 x22_2 p101 q101
         cases e101
         replace p101 := eq_true p101
         replace q101 := eq_true q101
         go_wp2
         repeat (go_quiet (fail); try go_wp2)
         go_roundg k2
         case measure => have := HJ2.out; have := HK2.out; omega
         case rel => exact ⟨(Go.bits .or .i64 (wrap64 (x7_2 * 256)) (wrap64 (rd l0 x22_2))), (wrap64 (x22_2 + 1)), (by first | rfl | (simp; done) | (simp [*]; done)), (by first | rfl | (simp; done) | (simp [*]; done)), H', ⟨by have := HJ2.out; have := HK2.out; omega⟩, ⟨by (with_reducible repeat (first | apply Kd.V_alloc | apply Kd.V_drewN | apply Kd.V_drew)); exact HO_0.out⟩, ⟨by repeat (first | (with_reducible first | exact HB.out | apply below_alloc | apply pw_below_drewN | apply below_drew1) | exact HB.out)⟩⟩
        ·rw [if_neg c9] at H
         exact absurd H (by simp)
       ·rw [if_neg c8] at H
        exact absurd H (by simp)
      ·rw [if_neg c7] at H
       have c7b0 : decide (x22_2 < a1) = false := decide_eq_false c7
       clear c7
       by_cases c10 : 0 ≤ a1
       ·rw [if_pos c10] at H
        have c10b0 := eq_true c10
        have c10b1 : decide (0 ≤ a1) = true := decide_eq_true c10
        clear c10
        by_cases c11 : a1 ≤ (l0.length : Int)
        ·rw [if_pos c11] at H
         have c11b0 := eq_true c11
         have c11b1 : decide (a1 ≤ (l0.length : Int)) = true := decide_eq_true c11
         clear c11
         obtain ⟨y102, hy102⟩ : ∃ y_ : List Int, y_ = (l0.drop (a1 : Int).toNat) := ⟨_, rfl⟩
         replace H : (some (x7_2, y102, true)) = some (r1, r2, r3) := by first | (rw [hy102]; with_reducible exact H) | (have H2_ := (Option.bind_some _ _).symm.trans H; rw [hy102]; with_reducible exact H2_) | (have H2_ := (Option.bind_some _ _).symm.trans H; with_reducible exact H2_) | with_reducible exact H | (rw [hy102]; exact H) | exact H
         have Ny102 := Aside0.mk hy102
         clear hy102
         simp only [Option.some.injEq, Prod.mk.injEq] at H
         obtain ⟨rfl, rfl, rfl⟩ := H
         have q12 : (a1 : Int) ≤ ((l0.length : Int) : Int) := of_decide_eq_true (by first | (with_reducible assumption) | assumption)
         obtain ⟨i012, hi012, _, hsz12, _⟩ := info_parts info5
         have hroom12 : l0.length ≤ c0 := (Kd.V_reads' HO_0.out).2.1
         have hC12 : Kd.F (Kd.int .u8) _ _ A0 l0.length l0 := (Kd.V_at (base := w.heap.size) HO_0.out).2.2
         have q012 : (0 : Int) ≤ (a1 : Int) := of_decide_eq_true (by first | (with_reducible assumption) | assumption)
         have hcut12 := cut_from (P := Tryd.prog) 24 5 .i64 Tryd.underlying24 hi012 1 hsz12 A0 l0.length c0 a1 q012 q12
         have hr12 := Kd.F_cut (m := (a1 : Int).toNat) (c := c0) hC12 (by omega) hroom12
         obtain ⟨A12, hA12⟩ : ∃ A1, A1 = (if c0 = (a1 : Int).toNat then A0 else (A0 : Option Addr).map (·.add ((a1 : Int).toNat * 1))) := ⟨_, rfl⟩
         obtain ⟨c12, hc12⟩ : ∃ c1, c1 = c0 - (a1 : Int).toNat := ⟨_, rfl⟩
         have hy12 : y102.length = l0.length - (a1 : Int).toNat := (by rw [Ny102.out, List.length_drop] <;> omega)
         rw [show (l0).drop (a1 : Int).toNat = y102 from Ny102.out.symm] at hr12
         replace hr12 : Kd.F (Kd.int .u8) _ _ A12 y102.length y102 := (by rw [hA12]; exact hr12)
         rw [← hy12, ← hA12, ← hc12] at hcut12
         have HO106 := Aside0.mk (show Kd.V (Kd.int .u8) 5 _ w.heap.size _ (.slice A12 y102.length c12) y102 from Kd.V_mk (by rw [hy12, hc12]; exact Nat.sub_le_sub_right hroom12 _) hr12)
         have HC106 := Aside0.mk (show y102.length ≤ c12 from by rw [hy12, hc12]; exact Nat.sub_le_sub_right hroom12 _)
         clear hr12 hC12 hroom12 hi012 hsz12 hc12
         have KY12 := Aside0.mk hy12
         have KA12 := Aside0.mk hA12
         clear hy12 hA12
         replace q12 := eq_true q12
         go_wp2
         repeat (go_quiet (fail); try go_wp2)
         go_ret3
         exact ⟨_, by first | rfl | (simp [errW_none, errW_some] <;> rfl) | (simp [*, errW_none, errW_some] <;> rfl), by (with_reducible repeat (first | apply Kd.V_alloc | apply Kd.V_drewN | apply Kd.V_drew)); exact HO106.out, by repeat (first | (with_reducible first | exact HB.out | apply below_alloc | apply pw_below_drewN | apply below_drew1) | exact HB.out)⟩
        ·rw [if_neg c11] at H
         exact absurd H (by simp)
       ·rw [if_neg c10] at H
        exact absurd H (by simp)

/-! ### prefix_size: function 32 -/
def prefix_size.f (a0 : Int) : Option (Int) := some (wrap64 (Int.tdiv (wrap64 (a0 + 7)) 8))
set_option maxHeartbeats 8000000 in
set_option maxRecDepth 100000 in
theorem prefix_size.calls (a0 : Int) (r : Int) (w : World) (h : prefix_size.f a0 = some r) :
  Calls Tryd.prog 32 #[.int .i64 a0] w fun e w' => e = .returned (.int .i64 r) ∧ Drawn0 w w' := by
 have H : (some (wrap64 (Int.tdiv (wrap64 (a0 + 7)) 8))) = some r := h
 clear h
 obtain rfl := Option.some.inj H
 go_enter Tryd.func32, Tryd.ntmps32
 go_wp2
 go_ret
 exact ⟨by first | rfl | (simp; done) | (simp [*]; done), by repeat (first | exact Drawn0.refl _ | apply Drawn0.step)⟩

/-! ### prefix_Get: function 11 (ours) -/

/-- append(h, make([]byte, k)...) where h has no room: what can be read of the row that comes of it. -/
theorem run_append_full (W : World) (A : Option Addr) (m k : Nat) (xs : List Int) (hC : Kd.C (Kd.int .u8) W A m xs) (hk : m + k = 4) :
    ∃ v1 w1, (Builtin.append_ #[24, 3] 24 #[.slice A m m, .int .i64 k]).run Tryd.prog W = .ok v1 w1 ∧ (∃ A' c', v1 = .slice A' 4 c' ∧ 4 ≤ c' ∧ Kd.C (Kd.int .u8) w1 A' 4 (xs ++ List.replicate k 0)) ∧ Below W.heap.size W w1 := by
  have hR := Kd.reads_of_C (d := 0) hC
  obtain ⟨hlen, hmax, hcell⟩ := hR
  obtain ⟨i0, hi, hi5⟩ := Option.map_eq_some_iff.1 info5
  simp only [Prod.mk.injEq] at hi5
  obtain ⟨hz, hs, hb⟩ := hi5
  by_cases h0 : k = 0
  · subst h0
    obtain rfl : m = 4 := by omega
    refine ⟨.slice A 4 4, W, ?_, ⟨A, 4, rfl, Nat.le_refl _, ?_⟩, Below.refl _ _⟩
    · have hw0 : IntKind.i64.wrap 0 = 0 := by rw [IntKind.wrap_i64] <;> omega
      cases A <;> simp [Builtin.append_, run_underlying Tryd.underlying24, run_underlying Tryd.underlying3, sizeOf, typeInfo, hi, asInt, asIntOf, hw0, storeCells]
    · simpa using hC
  · have hf : (Builtin.firstCells i0.size m (.slice A m m)).run Tryd.prog W.drew = .ok (xs.map (Value.int .u8)).toArray W.drew := by
      by_cases hm : m = 0
      · subst hm
        obtain rfl : xs = [] := List.eq_nil_of_length_eq_zero hlen
        cases A with
        | none => simp [Builtin.firstCells]
        | some ad => exact run_firstCells_some (P := Tryd.prog) W.drew i0.size 0 ad 0 0 [] (by simp) (by simp)
      · obtain ⟨ad, rfl, hc⟩ := hcell (by omega)
        refine run_firstCells_some (P := Tryd.prog) W.drew i0.size m ad m m (xs.map (Value.int .u8)) (by rw [hs, List.length_map]; omega) (fun j v hv => ?_)
        rw [List.getElem?_map] at hv
        obtain ⟨x, hx, rfl⟩ := Option.map_eq_some_iff.1 hv
        have hj : j < xs.length := (List.getElem?_eq_some_iff.1 hx).1
        have := hc j (by omega)
        rw [List.getD_eq_getElem?_getD, hx] at this
        simpa using this
    have hrun := Lib.run_append_grow_zeros (P := Tryd.prog) W 24 3 24 5 i0 (.int .u8 0) .i64 .i64 Tryd.underlying24 Tryd.underlying3 hi hz A m m _ hf k (by omega) (by omega) (by omega) (by omega) (by rw [hb]; omega) (by rw [hb, hk]; unfold Builtin.nextslicecap; split <;> (try split) <;> omega)
    refine ⟨_, _, hrun, ⟨_, _, by rw [hk], by have := grownCap_ge W (m + k) m 5; rwa [hk] at this, ?_⟩, below_alloc (below_drew (Below.refl _ _)) _⟩
    refine Kd.C_of_reads (d := 0) ⟨by rw [List.length_append, List.length_replicate]; omega, by omega, fun _ => ⟨⟨W.heap.size, 0, none⟩, rfl, fun j hj => ?_⟩⟩
    have hb := blk_cell (blk_new W.drew (.cells ((xs.map (Value.int .u8)).toArray ++ Builtin.zeroCells (Value.int .u8 0).cells k ++ Builtin.zeroCells (Value.int .u8 0).cells (grownCap W (m + k) m 5 - (m + k))) 5)) j
    rw [Addr.add_lit, Nat.zero_add]
    refine Eq.trans hb ?_
    have hz2 : (Builtin.zeroCells (Value.int .u8 0).cells k).size = k := by rw [size_zeroCells]; exact Nat.mul_one k
    rw [Array.getElem?_append_left (by rw [Array.size_append, List.size_toArray, List.length_map, hz2]; omega)]
    by_cases hj : j < xs.length
    · rw [Array.getElem?_append_left (by rw [List.size_toArray, List.length_map]; omega), List.getElem?_toArray, List.getElem?_map, List.getD_eq_getElem?_getD, List.getElem?_append_left hj, List.getElem?_eq_getElem hj]
      rfl
    · rw [Array.getElem?_append_right (by rw [List.size_toArray, List.length_map]; omega), List.size_toArray, List.length_map, List.getD_eq_getElem?_getD, List.getElem?_append_right (by omega), List.getElem?_replicate, if_pos (by omega)]
      have : j - xs.length < k := by omega
      simp [Builtin.zeroCells, Value.cells, this, Nat.mod_one]
/-- The same, at the step of a walk. -/
theorem step_append_full {ops : Array Oper} {rest : List Oper} {o : Oper} {a : Act} {Q : Exit → Act → World → Prop} {w0 W : World} (base : Nat) (hgd : o.guard = none) (s x : Operand) (ho : o.op = .call { callee := .builtin .append, args := #[s, x], argTypes := #[24, 3] }) (hty : o.type = 24)
    (A : Option Addr) (m k : Nat) (xs : List Int) (hs : a.eval s = .slice A m m) (hx : a.eval x = .int .i64 k) (hC : Kd.C (Kd.int .u8) W A m xs) (hk : m + k = 4) (HB : Below base w0 W) (hbase : base ≤ W.heap.size)
    (h : ∀ A' c' w1, 4 ≤ c' → Kd.C (Kd.int .u8) w1 A' 4 (xs ++ List.replicate k 0) → Below base w0 w1 → Below W.heap.size W w1 → wpList Tryd.prog ops Q rest (a.put o.dst (.slice A' 4 c')) w1) :
    wpList Tryd.prog ops Q (o :: rest) a W := by
  obtain ⟨v1, w1, hr1, ⟨A', c', rfl, hc, hC1⟩, hb⟩ := run_append_full W A m k xs hC hk
  refine wpList_plain hgd fun K hK => ?_
  unfold Oper.wp execOp
  simp only [ho, hty, resolve, invoke, builtin, Sem.run_bind, Sem.run_pure, Result.andThen_ok, List.map_toArray, List.map_cons, List.map_nil, hs, hx, hr1]
  exact hK _ _ (h A' c' w1 hc hC1 (HB.trans (hb.mono hbase)) hb)
/-- b[:j:j]. -/
theorem cut_full (A : Option Addr) (n c : Nat) (j : Int) (h0 : 0 ≤ j) (hm : j ≤ c) : ∀ W : World, (Instr.slice 24 (.slice A n c) none (some (.int .i64 j)) (some (.int .i64 j))).run Tryd.prog W = .ok (.slice A j.toNat j.toNat) W := by
  intro W
  obtain ⟨i0, hi, _⟩ := Option.map_eq_some_iff.1 info5
  have hel : Tryd.prog.elem 24 = 5 := by simp [Program.elem, Tryd.underlying24]
  have hu : Tryd.prog.underlying 24 = some (.slice (Tryd.prog.elem 24)) := by rw [hel]; exact Tryd.underlying24
  have ha : (A.map fun x => x.add 0) = A := by cases A <;> simp [Addr.add]
  rw [run_slice_hm W 24 A n c hu .i64 .i64 j j h0 (Int.le_refl _) hm, hel]
  simp [sizeOf, typeInfo, hi, sliced, Result.andThen, ha]
theorem Take_yes (A : Option Addr) (n c : Nat) (s : Int) (w : World) (hc : n ≤ c) (hn : n ≤ 140737488355328) (h0 : 0 ≤ s) (h1 : s ≤ n) :
    Calls Tryd.prog 31 #[.slice A n c, .int .i64 s] w fun e w' => e = .returned (.tuple #[.slice A s.toNat s.toNat, .slice (if c = s.toNat then A else A.map (·.add (s.toNat * 1))) (n - s.toNat) (c - s.toNat), .bool true]) ∧ Below w.heap.size w w' := by
  obtain ⟨i0, hi, hi5⟩ := Option.map_eq_some_iff.1 info5
  have hs1 : i0.size = 1 := by simp only [Prod.mk.injEq] at hi5; exact hi5.2.1
  have hA := cut_full A n c s h0 (by omega)
  have hB := cut_from (P := Tryd.prog) 24 5 .i64 Tryd.underlying24 hi 1 hs1 A n c s h0 h1
  clear hi hi5
  obtain ⟨A', hA'⟩ : ∃ A', A' = (if c = s.toNat then A else A.map (·.add (s.toNat * 1))) := ⟨_, rfl⟩
  rw [← hA'] at hB ⊢
  clear hA'
  have h2 : ¬ s < 0 := by omega
  have h3 : ¬ (n : Int) < s := by omega
  go_enter Tryd.func31, Tryd.ntmps31
  go_wp2
  repeat (go_quiet (fail); try go_wp2)
  go_ret3
  exact ⟨rfl, pw_below_drewN (Below.refl _ _) _⟩
theorem Take_no (A : Option Addr) (n c : Nat) (s : Int) (w : World) (hn : n ≤ 140737488355328) (h1 : (n : Int) < s) :
    Calls Tryd.prog 31 #[.slice A n c, .int .i64 s] w fun e w' => e = .returned (.tuple #[.slice none 0 0, .slice none 0 0, .bool false]) ∧ Below w.heap.size w w' := by
  have h2 : ¬ s < 0 := by omega
  go_enter Tryd.func31, Tryd.ntmps31
  go_wp2
  go_ret3
  exact ⟨rfl, Below.refl _ _⟩
def prefix_Get.f (k : Nat) (l0 : List Int) : Option (Int × Int × List Int × Bool) :=
  if l0.length ≤ 140737488355328 then (octet_Get.f k l0 1).bind fun b => if b.2.2 = true then (if b.1 > 32 then some (0, 0, ([] : List Int), false) else
    (if b.2.1.length ≤ 140737488355328 ∧ 0 ≤ wrap64 (Int.tdiv (wrap64 (b.1 + 7)) 8) then (if wrap64 (Int.tdiv (wrap64 (b.1 + 7)) 8) ≤ (b.2.1.length : Int) then (if wrap64 (Int.tdiv (wrap64 (b.1 + 7)) 8) ≤ 4 then
      ((octet_Get.f k (b.2.1.take (wrap64 (Int.tdiv (wrap64 (b.1 + 7)) 8)).toNat ++ List.replicate (4 - (wrap64 (Int.tdiv (wrap64 (b.1 + 7)) 8)).toNat) 0) 4).bind fun c => (prefix_Mask.f c.1 b.1).bind fun m => some (m, b.1, b.2.1.drop (wrap64 (Int.tdiv (wrap64 (b.1 + 7)) 8)).toNat, true)) else none)
      else some (0, 0, ([] : List Int), false)) else none)) else some (0, 0, ([] : List Int), false)
  else none
theorem prefix_Get.mono : ∀ a0 k, LeO (prefix_Get.f k a0) (prefix_Get.f (k + 1) a0) := by
  intro a0 k
  unfold prefix_Get.f
  refine LeO.ite (LeO.bind (octet_Get.mono _ _ _) (fun b => ?_)) (LeO.none _)
  refine LeO.ite (LeO.ite (LeO.refl _) (LeO.ite (LeO.ite (LeO.ite (LeO.bind (octet_Get.mono _ _ _) (fun _ => LeO.refl _)) (LeO.refl _)) (LeO.refl _)) (LeO.refl _))) (LeO.refl _)
set_option maxRecDepth 100000 in
set_option maxHeartbeats 8000000 in
theorem prefix_Get.calls (k : Nat) (P0_ : Nat → Prop) (A0 : Option Addr) (c0 : Nat) (l0 : List Int) (r1 : Int) (r2 : Int) (r3 : List Int) (r4 : Bool) (w : World) (hs0 : Kd.V (Kd.int .u8) 5 w w.heap.size (fun k_ => P0_ k_) (.slice A0 l0.length c0) l0) (h : prefix_Get.f k l0 = some (r1, r2, r3, r4)) :
    Calls Tryd.prog 11 #[.slice A0 l0.length c0] w fun e w' => ∃ v2_ : Value, e = .returned (.tuple #[.agg #[.int .i64 r1, .int .i64 r2], v2_, .bool r4]) ∧ Kd.V (Kd.int .u8) 5 w' w.heap.size (fun k_ => (P0_ k_ ∨ w.heap.size ≤ k_)) v2_ r3 ∧ Below w.heap.size w w' := by
  unfold prefix_Get.f at h
  by_cases hlen : l0.length ≤ 140737488355328
  · rw [if_pos hlen, Option.bind_eq_some_iff] at h
    obtain ⟨⟨b1, b2, b3⟩, hb, h⟩ := h
    simp only [] at h
    have huP := Tryd.underlying23
    have HS := Aside0.mk hs0
    clear hs0
    have HG := Aside0.mk hb
    clear hb
    go_enter Tryd.func11, Tryd.ntmps11
    go_wp2_with fail
    refine (octet_Get.calls k (fun k_ => P0_ k_ ∧ k_ < w.heap.size) A0 c0 l0 1 b1 b2 b3 _ (Kd.V_map (Kd.V_bound HS.out) (fun _ hf => Kd.F_alloc hf _)) HG.out).mono ?_
    rintro e w1 ⟨v1, rfl, hv, hb1⟩
    have HB1 := Aside0.mk (((Below.refl w.heap.size w).alloc (Nat.le_refl _) (.cells #[.int .i64 0, .int .i64 0] 23)).trans (hb1.mono (below_alloc (Below.refl _ _) _).size))
    have HBK := Aside0.mk (blk_below (blk_new w (.cells #[.int .i64 0, .int .i64 0] 23)) hb1)
    obtain ⟨A1, c1, rfl⟩ := Kd.V_slice hv
    have HV1 := Aside0.mk hv
    clear hv hb1 HG
    by_cases e3 : b3 = true
    · subst e3
      rw [if_pos rfl] at h
      by_cases h32 : b1 > 32
      · rw [if_pos h32] at h
        simp only [Option.some.injEq, Prod.mk.injEq] at h
        obtain ⟨rfl, rfl, rfl, rfl⟩ := h
        have h32' : (32 : Int) < b1 := h32
        have hc0 : w1.cell? ⟨w.heap.size, 0, none⟩ = some (.int .i64 0) := (blk_cell HBK.out 0).trans rfl
        have hc1 : w1.cell? ⟨w.heap.size, 1, none⟩ = some (.int .i64 0) := (blk_cell HBK.out 1).trans rfl
        have hf0 := blk_frozen HBK.out 0
        have hf1 := blk_frozen HBK.out 1
        go_wp2_with fail
        refine bodyPost_ret (results_ctt rfl _ _ w.heap.size 23 #[.int .i64 0, .int .i64 0] (0, 0) _ rfl (by (with_reducible repeat (first | refine blk_drewN ?_ _ | refine blk_drew ?_ | refine blk_alloc ?_ _)); refine blk_put (cs := #[.int .i64 0, .int .i64 0]) ?_ 1 _ rfl; (with_reducible repeat (first | refine blk_drewN ?_ _ | refine blk_drew ?_ | refine blk_alloc ?_ _)); refine blk_put (cs := #[.int .i64 0, .int .i64 0]) ?_ 0 _ rfl; exact HBK.out) Tryd.underlying23 rfl (by kernel_rfl)) rfl ?_
        exact ⟨_, rfl, Kd.V_nil _ _ _ _ _, below_set (below_set HB1.out (Nat.le_refl _)) (Nat.le_refl _)⟩
      · rw [if_neg h32] at h
        have h32' : ¬ (32 : Int) < b1 := h32
        obtain ⟨s, hs⟩ : ∃ s, s = wrap64 (Int.tdiv (wrap64 (b1 + 7)) 8) := ⟨_, rfl⟩
        rw [← hs] at h
        have HSZ := Aside0.mk hs
        clear hs
        by_cases hs0 : b2.length ≤ 140737488355328 ∧ 0 ≤ s
        · rw [if_pos hs0] at h
          obtain ⟨hlen2, hs0⟩ := hs0
          go_wp2_with fail
          refine (prefix_size.calls b1 s _ (by rw [HSZ.out]; rfl)).mono ?_
          rintro e w2 ⟨rfl, hd⟩
          have HB2 := Aside0.mk (HB1.out.trans (hd.below.mono HB1.out.size))
          have HBK2 := Aside0.mk (blk_below HBK.out hd.below)
          have HV2 := Aside0.mk (Kd.V_below HV1.out hd.below)
          clear hd
          obtain ⟨-, hle1, hC2⟩ := Kd.V_reads' HV2.out
          go_wp2_with fail
          by_cases h5 : s ≤ (b2.length : Int)
          · rw [if_pos h5] at h
            by_cases h6 : s ≤ 4
            · rw [if_pos h6] at h
              obtain ⟨sn, rfl⟩ := Int.eq_ofNat_of_zero_le hs0
              rw [Int.toNat_natCast] at h
              refine (Take_yes A1 b2.length c1 sn w2 hle1 hlen2 hs0 h5).mono ?_
              rintro e w3 ⟨rfl, hd⟩
              rw [Int.toNat_natCast]
              have hcap : sn ≤ b2.length := by omega
              have HC3 := Aside0.mk (Kd.C_below (Kd.C_take hC2 hcap) hd)
              have HB3 := Aside0.mk (HB2.out.trans (hd.mono HB2.out.size))
              have HBK3 := Aside0.mk (blk_below HBK2.out hd)
              have HV3 := Aside0.mk (Kd.F_below (Kd.F_cut (m := sn) (Kd.V_F HV2.out) hcap hle1) hd)
              clear hd
              obtain ⟨kz, hkz⟩ : ∃ kz : Nat, sn + kz = 4 := ⟨4 - sn, by omega⟩
              have hwr : IntKind.i64.wrap (4 - (sn : Int)) = (kz : Int) := by rw [IntKind.wrap_i64] <;> omega
              rw [show 4 - sn = kz by omega] at h
              have HK := Aside0.mk hkz
              clear hkz h5 h6 hs0
              obtain ⟨A3, hA3⟩ : ∃ A3, A3 = (if c1 = sn then A1 else A1.map (·.add (sn * 1))) := ⟨_, rfl⟩
              rw [← hA3]
              have HA3 := Aside0.mk hA3
              clear hA3 hC2
              go_wp2_with ((with_reducible refine gate_builtin (b := .append) (xs := #[.tmp 37, .tmp 40]) rfl ?_); at_builtin; refine step_append_full (w0 := w) w.heap.size rfl (.tmp 37) (.tmp 40) rfl rfl A1 sn kz (b2.take sn) rfl rfl (by have := HC3.out; rwa [List.length_take, Nat.min_eq_left hcap] at this) HK.out HB3.out HB3.out.size ?_; intro A4 c4 w4 hc4 hC4 hB4 hb4)
              have hl4 : (b2.take sn ++ List.replicate kz 0).length = 4 := by rw [List.length_append, List.length_take, List.length_replicate, Nat.min_eq_left hcap]; exact HK.out
              rw [Option.bind_eq_some_iff] at h
              obtain ⟨⟨g1, g2, g3⟩, hg, h⟩ := h
              rw [Option.bind_eq_some_iff] at h
              obtain ⟨m, hm, h⟩ := h
              simp only [Option.some.injEq, Prod.mk.injEq] at h
              obtain ⟨rfl, rfl, rfl, rfl⟩ := h
              have hG := octet_Get.calls k (fun k_ => k_ < w4.heap.size) A4 c4 (b2.take sn ++ List.replicate kz 0) 4 g1 g2 g3 w4 (Kd.V_mk (by rw [hl4]; exact hc4) (by have := Kd.C_F (Kd.heap_int .u8) hC4; rwa [← hl4] at this)) hg
              rw [hl4] at hG
              refine hG.mono ?_
              rintro e w5 ⟨v5, rfl, hv5, hd⟩
              obtain ⟨A5, c5, rfl⟩ := Kd.V_slice hv5
              have HB5 := Aside0.mk (hB4.trans (hd.mono hB4.size))
              have HBK5 := Aside0.mk (blk_below (blk_below HBK3.out hb4) hd)
              have HV5 := Aside0.mk (Kd.F_below (Kd.F_below HV3.out hb4) hd)
              clear hd hv5 hG hg hC4 hl4 hB4 hb4
              go_wp2_with fail
              refine (prefix_Mask.calls g1 b1 m _ hm).mono ?_
              rintro e w6 ⟨rfl, hd⟩
              have HB6 := Aside0.mk (HB5.out.trans (hd.mono HB5.out.size))
              have HBK6 := Aside0.mk (blk_below HBK5.out hd)
              have HV6 := Aside0.mk (Kd.F_below HV5.out hd)
              clear hd
              have hc0 : w6.cell? ⟨w.heap.size, 0, none⟩ = some (.int .i64 0) := (blk_cell HBK6.out 0).trans rfl
              have hc1 : w6.cell? ⟨w.heap.size, 1, none⟩ = some (.int .i64 0) := (blk_cell HBK6.out 1).trans rfl
              have hf0 := blk_frozen HBK6.out 0
              have hf1 := blk_frozen HBK6.out 1
              go_wp2_with fail
              refine bodyPost_ret (results_ctt rfl _ _ w.heap.size 23 #[.int .i64 m, .int .i64 b1] (0, 0) _ rfl (by (with_reducible repeat (first | refine blk_drewN ?_ _ | refine blk_drew ?_ | refine blk_alloc ?_ _)); refine blk_put (cs := #[.int .i64 m, .int .i64 0]) ?_ 1 _ rfl; (with_reducible repeat (first | refine blk_drewN ?_ _ | refine blk_drew ?_ | refine blk_alloc ?_ _)); refine blk_put (cs := #[.int .i64 0, .int .i64 0]) ?_ 0 _ rfl; exact HBK6.out) Tryd.underlying23 rfl (by kernel_rfl)) rfl ?_
              refine ⟨_, rfl, ?_, below_set (below_set HB6.out (Nat.le_refl _)) (Nat.le_refl _)⟩
              have hne : ∀ k_, ((P0_ k_ ∧ k_ < w.heap.size) ∨ (w.alloc (.cells #[.int .i64 0, .int .i64 0] 23)).heap.size ≤ k_) → k_ ≠ w.heap.size := by
                intro k_ hk
                have hsz : (w.alloc (.cells #[.int .i64 0, .int .i64 0] 23)).heap.size = w.heap.size + 1 := by simp
                rcases hk with hk | hk
                · exact Nat.ne_of_lt hk.2
                · rw [hsz] at hk
                  omega
              have hl2 : (b2.drop sn).length ≤ c1 - sn := by rw [List.length_drop]; omega
              have hV := Kd.V_mk (e := 5) (base := w.heap.size) hl2 (Kd.F_far (Kd.F_far HV6.out (p := ⟨w.heap.size, 0, none⟩) hne (.int .i64 m)) (p := ⟨w.heap.size, 1, none⟩) hne (.int .i64 b1))
              rw [List.length_drop, show (if c1 = sn then A1 else A1.map (·.add (sn * (Kd.int .u8).sz))) = A3 from HA3.out.symm] at hV
              refine Kd.V_mono hV (fun k_ hk => ?_)
              rcases hk with hk | hk
              · exact .inl hk.1
              · exact .inr (Nat.le_trans (by simp) hk)
            · rw [if_neg h6] at h
              cases h
          · rw [if_neg h5] at h
            simp only [Option.some.injEq, Prod.mk.injEq] at h
            obtain ⟨rfl, rfl, rfl, rfl⟩ := h
            refine (Take_no A1 b2.length c1 s w2 hlen2 (by omega)).mono ?_
            rintro e w3 ⟨rfl, hd⟩
            have HB3 := Aside0.mk (HB2.out.trans (hd.mono HB2.out.size))
            have HBK3 := Aside0.mk (blk_below HBK2.out hd)
            clear hd
            have hc0 : w3.cell? ⟨w.heap.size, 0, none⟩ = some (.int .i64 0) := (blk_cell HBK3.out 0).trans rfl
            have hc1 : w3.cell? ⟨w.heap.size, 1, none⟩ = some (.int .i64 0) := (blk_cell HBK3.out 1).trans rfl
            have hf0 := blk_frozen HBK3.out 0
            have hf1 := blk_frozen HBK3.out 1
            go_wp2_with fail
            refine bodyPost_ret (results_ctt rfl _ _ w.heap.size 23 #[.int .i64 0, .int .i64 0] (0, 0) _ rfl (by (with_reducible repeat (first | refine blk_drewN ?_ _ | refine blk_drew ?_ | refine blk_alloc ?_ _)); refine blk_put (cs := #[.int .i64 0, .int .i64 0]) ?_ 1 _ rfl; (with_reducible repeat (first | refine blk_drewN ?_ _ | refine blk_drew ?_ | refine blk_alloc ?_ _)); refine blk_put (cs := #[.int .i64 0, .int .i64 0]) ?_ 0 _ rfl; exact HBK3.out) Tryd.underlying23 rfl (by kernel_rfl)) rfl ?_
            exact ⟨_, rfl, Kd.V_nil _ _ _ _ _, below_set (below_set HB3.out (Nat.le_refl _)) (Nat.le_refl _)⟩
        · rw [if_neg hs0] at h
          cases h
    · have e3' : b3 = false := by simpa using e3
      subst e3'
      rw [if_neg (by decide)] at h
      simp only [Option.some.injEq, Prod.mk.injEq] at h
      obtain ⟨rfl, rfl, rfl, rfl⟩ := h
      have hc0 : w1.cell? ⟨w.heap.size, 0, none⟩ = some (.int .i64 0) := (blk_cell HBK.out 0).trans rfl
      have hc1 : w1.cell? ⟨w.heap.size, 1, none⟩ = some (.int .i64 0) := (blk_cell HBK.out 1).trans rfl
      have hf0 := blk_frozen HBK.out 0
      have hf1 := blk_frozen HBK.out 1
      go_wp2_with fail
      refine bodyPost_ret (results_ctt rfl _ _ w.heap.size 23 #[.int .i64 0, .int .i64 0] (0, 0) _ rfl (by (with_reducible repeat (first | refine blk_drewN ?_ _ | refine blk_drew ?_ | refine blk_alloc ?_ _)); refine blk_put (cs := #[.int .i64 0, .int .i64 0]) ?_ 1 _ rfl; (with_reducible repeat (first | refine blk_drewN ?_ _ | refine blk_drew ?_ | refine blk_alloc ?_ _)); refine blk_put (cs := #[.int .i64 0, .int .i64 0]) ?_ 0 _ rfl; exact HBK.out) Tryd.underlying23 rfl (by kernel_rfl)) rfl ?_
      exact ⟨_, rfl, Kd.V_nil _ _ _ _ _, below_set (below_set HB1.out (Nat.le_refl _)) (Nat.le_refl _)⟩
  · rw [if_neg hlen] at h
    cases h

/-! ### prefix_All: function 13 -/
def prefix_All.l0 : Nat → List Int → List (S23) → Option ((List (S23)) × Bool)
 | 0, _, _ => none
 | k + 1, x0, x4 => if (x0.length : Int) > 0 then ((prefix_Get.f k x0).bind fun bt107 => (if bt107.2.2.2 = true then (if x4.length < 8796093022208 then (prefix_All.l0 k bt107.2.2.1 (x4 ++ [(⟨bt107.1, bt107.2.1⟩ : S23)])) else (none)) else (some (([] : List (S23)), false)))) else (some (x4, true))
def prefix_All.f (k : Nat) (l0 : List Int) : Option ((List (S23)) × Bool) := prefix_All.l0 k l0 ([] : List (S23))
theorem prefix_All.mono_l : ∀ k, (∀ y0 y1, LeO (prefix_All.l0 k y0 y1) (prefix_All.l0 (k + 1) y0 y1))
 | 0 => fun _ _ r h => by simp [prefix_All.l0] at h
 | k + 1 => by
  have ih0 := prefix_All.mono_l k
  ·intro y0 y1
   unfold prefix_All.l0
   repeat' first
   | (with_reducible exact ih0 _ _)
   | (with_reducible exact prefix_Get.mono _ _)
   | (with_reducible exact LeO.refl _)
   | (with_reducible exact LeO.none _)
   | (with_reducible refine LeO.ite ?_ ?_)
   | (with_reducible refine LeO.bind ?_ (fun _ => ?_))
   | exact ih0 _ _
   | exact prefix_Get.mono _ _
   | exact LeO.none _
   | refine LeO.ite ?_ ?_
   | refine LeO.bind ?_ (fun _ => ?_)
theorem prefix_All.mono : ∀ a0 k, LeO (prefix_All.f k a0) (prefix_All.f (k + 1) a0) := by
 intro a0 k
 have ih0 := prefix_All.mono_l k
 unfold prefix_All.f
 repeat' first
   | (with_reducible exact ih0 _ _)
   | (with_reducible exact prefix_Get.mono _ _)
   | (with_reducible exact LeO.refl _)
   | (with_reducible exact LeO.none _)
   | (with_reducible refine LeO.ite ?_ ?_)
   | (with_reducible refine LeO.bind ?_ (fun _ => ?_))
   | exact ih0 _ _
   | exact prefix_Get.mono _ _
   | exact LeO.none _
   | refine LeO.ite ?_ ?_
   | refine LeO.bind ?_ (fun _ => ?_)
set_option maxHeartbeats 8000000 in
set_option maxRecDepth 100000 in
theorem prefix_All.calls (k : Nat) (P0_ : Nat → Prop) (A0 : Option Addr) (c0 : Nat) (l0 : List Int) (r1 : List (S23)) (r2 : Bool) (w : World) (hs0 : Kd.V (Kd.int .u8) 5 w w.heap.size (fun k_ => P0_ k_) (.slice A0 l0.length c0) l0) (h : prefix_All.f k l0 = some (r1, r2)) :
  Calls Tryd.prog 13 #[.slice A0 l0.length c0] w fun e w' => ∃ v0_ : Value, e = .returned (.tuple #[v0_, .bool r2]) ∧ Kd.R k23 23 w' w.heap.size (fun k_ => (w.heap.size ≤ k_)) v0_ r1 ∧ Below w.heap.size w w' := by
 have hu23 := Tryd.underlying23
 have HO0 := Aside0.mk (show Kd.V (Kd.int .u8) 5 w w.heap.size (fun k_ => (P0_ k_ ∨ w.heap.size ≤ k_)) (.slice A0 l0.length c0) l0 from Kd.V_mono hs0 (fun k_ hk => .inl hk))
 have HB := Aside0.mk (Below.refl w.heap.size w)
 have H : (prefix_All.l0 k l0 ([] : List (S23))) = some (r1, r2) := h
 clear h
 have H' := Aside0.mk H
 clear H
 go_enter Tryd.func13, Tryd.ntmps13
 go_wp2; go_step3; go_wp2; go_step3; go_wp2
 go_loopg [0, 4] k (fun kq v0 v4 w' => ∃ (x0_1 : List Int) (x4_1 : List (S23)), Aside0 (prefix_All.l0 kq x0_1 x4_1 = some (r1, r2)) ∧ Aside0 (kq ≤ k) ∧ Aside0 (Kd.V (Kd.int .u8) 5 w' w.heap.size (fun k_ => (P0_ k_ ∨ w.heap.size ≤ k_) ∧ some k_ ≠ (v4 : Value).ownBlock) v0 x0_1) ∧ Aside0 (Kd.R k23 23 w' w.heap.size (fun k_ => (w.heap.size ≤ k_)) v4 x4_1) ∧ Aside0 (Below w.heap.size w w'))
 case atStart => exact ⟨(l0), (([] : List (S23))), H', ⟨Nat.le_refl _⟩, ⟨by (with_reducible repeat (first | apply Kd.V_alloc | apply Kd.V_drewN | apply Kd.V_drew)); exact Kd.V_mono HO0.out (fun _ hk => ⟨hk, (by simp [Value.ownBlock])⟩)⟩, ⟨by first | exact Kd.R_nil _ _ _ _ _ | exact Kd.N_nil _ _ _ _ _ | exact Kd.V_nil _ _ _ _ _ | exact Kd.Q_nil _ _ _ _ _ | exact Kd.S_nil _ _ _ _ _⟩, ⟨by repeat (first | (with_reducible first | exact HB.out | apply below_alloc | apply pw_below_drewN | apply below_drew1) | exact HB.out)⟩⟩
 case round =>
  clear H'
  try clear c1
  obtain ⟨x0_1, x4_1, HA, HK1, HO_0, HO_4, HB⟩ := hrel
  cases gk with
  | zero => exact absurd HA.out (by simp [prefix_All.l0])
  | succ k1 =>
   have H := HA.out
   clear HA
   simp only [prefix_All.l0] at H
   by_cases c2 : (x0_1.length : Int) > 0
   ·rw [if_pos c2] at H
    have c2b0 : decide (0 < (x0_1.length : Int)) = true := decide_eq_true c2
    have c2b1 : decide (0 < x0_1.length) = true := decide_eq_true (by omega)
    clear c2
    replace H := Option.bind_eq_some_iff.mp H
    obtain ⟨⟨t107, t108, t109, t112⟩, A30, H⟩ := H
    replace H : (if t112 = true then (if x4_1.length < 8796093022208 then (prefix_All.l0 k1 t109 (x4_1 ++ [(⟨t107, t108⟩ : S23)])) else (none)) else (some (([] : List (S23)), false))) = some (r1, r2) := H
    have A3 := Aside0.mk A30
    clear A30
    by_cases c4 : t112 = true
    ·subst c4
     have H1 : (if x4_1.length < 8796093022208 then (prefix_All.l0 k1 t109 (x4_1 ++ [(⟨t107, t108⟩ : S23)])) else (none)) = some (r1, r2) := by rw [if_pos rfl] at H; exact H
     clear H
     have H := H1
     clear H1
     by_cases c5 : x4_1.length < 8796093022208
     ·rw [if_pos c5] at H
      have LMc5 := Aside0.mk c5
      clear c5
      obtain ⟨y114, hy114⟩ : ∃ y_ : List (S23), y_ = (x4_1 ++ [(⟨t107, t108⟩ : S23)]) := ⟨_, rfl⟩
      replace H : (prefix_All.l0 k1 t109 y114) = some (r1, r2) := by first | (rw [hy114]; with_reducible exact H) | (have H2_ := (Option.bind_some _ _).symm.trans H; rw [hy114]; with_reducible exact H2_) | (have H2_ := (Option.bind_some _ _).symm.trans H; with_reducible exact H2_) | with_reducible exact H | (rw [hy114]; exact H) | exact H
      have Ny114 := Aside0.mk hy114
      clear hy114
      have H' := Aside0.mk H
      clear H
      obtain ⟨Ao6, co6, eo6⟩ := Kd.V_slice HO_0.out
      subst eo6
      go_wp2_with (first | ((with_reducible refine gate_callee (f := 11) rfl ?_); refine goesL_ (some 13) rfl rfl Tryd.func11 (by kernel_rfl) rfl #[.slice Ao6 x0_1.length co6] rfl (by (try simp only [List.map_toArray, List.map_cons, List.map_nil]); first | done | rfl | (simp only [List.length_drop, List.length_take]; rfl)) ?_; (with_reducible refine (prefix_Get.calls k1 (fun k_ => ((P0_ k_ ∨ w.heap.size ≤ k_) ∧ some k_ ≠ (u4 : Value).ownBlock)) _ _ x0_1 t107 t108 t109 true _ ?side1 A3.out).mono ?_); (case side1 => exact HO_0.out); rintro e w7 ⟨v110, rfl, ho0, hb⟩; refine ⟨_, rfl, ?_⟩; have n0_ := Aside0.mk (Kd.V_below (by (with_reducible repeat (first | apply Kd.V_alloc | apply Kd.V_drewN | apply Kd.V_drew)); exact HO_0.out) hb); have n1_ := Aside0.mk (Kd.R_below (by (with_reducible repeat (first | apply Kd.R_alloc | apply Kd.R_drewN | apply Kd.R_drew)); exact HO_4.out) hb); have n2_ := Aside0.mk (Kd.V_lower (Kd.V_mono (ok' := fun k_ => (P0_ k_ ∨ w.heap.size ≤ k_) ∧ some k_ ≠ (u4 : Value).ownBlock) ho0 (fun k_ hk_ => ⟨Or.elim hk_ (fun hs_ => hs_.1) (fun hn_ => (.inr (Nat.le_trans (below_size (by repeat (first | (with_reducible first | exact HB.out | apply below_alloc | apply pw_below_drewN | apply below_drew1) | exact HB.out))) hn_))), Or.elim hk_ (fun hs_ => hs_.2) (fun hn_ => (Kd.fresh' (Kd.R_lt (by (with_reducible repeat (first | apply Kd.R_alloc | apply Kd.R_drewN | apply Kd.R_drew)); exact HO_4.out)) k_ hn_))⟩)) (below_size (by repeat (first | (with_reducible first | exact HB.out | apply below_alloc | apply pw_below_drewN | apply below_drew1) | exact HB.out)))); have n3_ := Aside0.mk (below_step (by repeat (first | (with_reducible first | exact HB.out | apply below_alloc | apply pw_below_drewN | apply below_drew1) | exact HB.out)) hb); clear HO_0; clear HO_4; clear HB; have HO_0 := n0_; have HO_4 := n1_; have HO111 := n2_; have HB := n3_; clear n0_ n1_ n2_ n3_; (try clear hb); (try clear hb2); (try clear hk); (try clear hi); (try clear ho0)) | ((with_reducible refine gate_dst (N := 5) rfl ?_); refine box_event ?hg (N := 5) ?hd (cs := #[.int .i64 0, .int .i64 0]) (t := 23) ?hr ?_; (case hd => rfl); (case hg => rfl); (case hr => first | (go_simp; done) | (go_simp; rfl)); intro gb113 hg w8 hbox hb; have n0_ := Aside0.mk (Kd.V_below (Kd.V_elderB (by (with_reducible repeat (first | apply Kd.V_alloc | apply Kd.V_drewN | apply Kd.V_drew)); exact HO_0.out) gb113 (Nat.le_of_eq hg.symm)) hb); have n1_ := Aside0.mk (Kd.R_below (Kd.R_elderB (by (with_reducible repeat (first | apply Kd.R_alloc | apply Kd.R_drewN | apply Kd.R_drew)); exact HO_4.out) gb113 (Nat.le_of_eq hg.symm)) hb); have n2_ := Aside0.mk (Kd.V_below (Kd.V_elderB (by (with_reducible repeat (first | apply Kd.V_alloc | apply Kd.V_drewN | apply Kd.V_drew)); exact HO111.out) gb113 (Nat.le_of_eq hg.symm)) hb); have n3_ := Aside0.mk (below_step (by repeat (first | (with_reducible first | exact HB.out | apply below_alloc | apply pw_below_drewN | apply below_drew1) | exact HB.out)) hb); have n4_ := Aside0.mk (hbox); have n5_ := Aside0.mk ((by rw [hg]; exact (below_size (by repeat (first | (with_reducible first | exact HB.out | apply below_alloc | apply pw_below_drewN | apply below_drew1) | exact HB.out))) : w.heap.size ≤ gb113)); have n6_ := Aside0.mk ((by rw [hg]; exact (below_size (by repeat (first | (with_reducible first | exact HB.out | apply below_alloc | apply pw_below_drewN | apply below_drew1) | exact HB.out))) : w.heap.size ≤ gb113)); clear HO_0; clear HO_4; clear HO111; clear HB; have HO_0 := n0_; have HO_4 := n1_; have HO111 := n2_; have HB := n3_; have BK113 := n4_; have GW113 := n5_; have GE113 := n6_; clear n0_ n1_ n2_ n3_ n4_ n5_ n6_; clear hb hbox hg; have hcz9_0 : w8.cell? ⟨gb113, 0, none⟩ = some (.int .i64 0) := (blk_cell BK113.out 0).trans rfl; have hcz9_1 : w8.cell? ⟨gb113, 1, none⟩ = some (.int .i64 0) := (blk_cell BK113.out 1).trans rfl; have hfz9_0 := blk_frozen BK113.out 0; have hfz9_1 := blk_frozen BK113.out 1) | ((with_reducible refine gate_builtin (b := .append) (xs := #[.tmp 18, .tmp 20]) rfl ?_); at_builtin; refine Kd.R_append k23 (w0 := w) w.heap.size rfl (.tmp 18) (.tmp 20) 28 23 (.agg #[(.int .i64 0), (.int .i64 0)]) 16 rfl Tryd.underlying28 info23 rfl (by decide) (by omega) u4 x4_1 (⟨t107, t108⟩ : S23) [.int .i64 t107, .int .i64 t108] (fun k_ => (w.heap.size ≤ k_) ∧ k_ ≠ gb113) (fun _ => False) rfl (by first | (go_simp; done) | (go_simp; rfl)) ?aP (fun _ hk => hk.elim) ?aF ?aO ?aB ?aS ?aL ?_; (case aP => exact k23_mkM _ _ _ (⟨t107, t108⟩ : S23)); (case aB => exact (by repeat (first | (with_reducible first | exact HB.out | apply below_alloc | apply pw_below_drewN | apply below_drew1 | refine below_set ?_ GE113.out) | exact HB.out))); (case aF => exact (fun k_ hk => ⟨(Nat.le_trans (below_size (by repeat (first | (with_reducible first | exact HB.out | apply below_alloc | apply pw_below_drewN | apply below_drew1 | refine below_set ?_ GE113.out) | exact HB.out))) hk), Kd.freshB (g := gb113) (o := .cells #[.int .i64 t107, .int .i64 t108] 23 (0, 0)) (by (with_reducible repeat (first | refine blk_drewN ?_ _ | refine blk_drew ?_ | refine blk_alloc ?_ _)); refine blk_put (cs := #[.int .i64 t107, .int .i64 0]) ?_ 1 _ rfl; (with_reducible repeat (first | refine blk_drewN ?_ _ | refine blk_drew ?_ | refine blk_alloc ?_ _)); refine blk_put (cs := #[.int .i64 0, .int .i64 0]) ?_ 0 _ rfl; (with_reducible repeat (first | refine blk_drewN ?_ _ | refine blk_drew ?_ | refine blk_alloc ?_ _)); exact BK113.out) k_ hk⟩)); (case aO => exact (by (with_reducible repeat (first | apply Kd.R_alloc | apply Kd.R_drewN | apply Kd.R_drew)); exact Kd.R_mono (Kd.R_far (p := ⟨gb113, 1, none⟩) (Kd.R_far (p := ⟨gb113, 0, none⟩) (Kd.R_mono HO_4.out (fun k_ hk => (⟨hk, hk.2⟩ : _ ∧ k_ ≠ gb113))) (fun _ hk => hk.2) (.int .i64 t107)) (fun _ hk => hk.2) (.int .i64 t108)) (fun _ hk => ⟨hk.1.1, hk.1.2⟩))); (case aS => exact (below_size (by repeat (first | (with_reducible first | exact HB.out | apply below_alloc | apply pw_below_drewN | apply below_drew1 | refine below_set ?_ GE113.out) | exact HB.out)))); (case aL => have := LMc5.out; omega); intro v115 w10 ho hb hg hat; rw [← Ny114.out] at ho; have n0_ := Aside0.mk (Kd.V_afterv (ok := (fun k_ => (P0_ k_ ∨ w.heap.size ≤ k_) ∧ k_ ≠ gb113)) (by (with_reducible repeat (first | apply Kd.V_alloc | apply Kd.V_drewN | apply Kd.V_drew)); exact Kd.V_mono (Kd.V_far (p := ⟨gb113, 1, none⟩) (Kd.V_far (p := ⟨gb113, 0, none⟩) (Kd.V_mono HO_0.out (fun k_ hk => (⟨hk, hk.2⟩ : _ ∧ k_ ≠ gb113))) (fun _ hk => hk.2) (.int .i64 t107)) (fun _ hk => hk.2) (.int .i64 t108)) (fun _ hk => ⟨⟨hk.1.1.1, hk.1.2⟩, hk.1.1.2⟩)) hg hat); have n1_ := Aside0.mk (Kd.V_afterv (ok := (fun k_ => (P0_ k_ ∨ w.heap.size ≤ k_) ∧ k_ ≠ gb113)) (by (with_reducible repeat (first | apply Kd.V_alloc | apply Kd.V_drewN | apply Kd.V_drew)); exact Kd.V_mono (Kd.V_far (p := ⟨gb113, 1, none⟩) (Kd.V_far (p := ⟨gb113, 0, none⟩) (Kd.V_mono HO111.out (fun k_ hk => (⟨hk, hk.2⟩ : _ ∧ k_ ≠ gb113))) (fun _ hk => hk.2) (.int .i64 t107)) (fun _ hk => hk.2) (.int .i64 t108)) (fun _ hk => ⟨⟨hk.1.1.1, hk.1.2⟩, hk.1.1.2⟩)) hg hat); have n2_ := Aside0.mk (blk_grown (g := gb113) (o := .cells #[.int .i64 t107, .int .i64 t108] 23 (0, 0)) (by (with_reducible repeat (first | refine blk_drewN ?_ _ | refine blk_drew ?_ | refine blk_alloc ?_ _)); refine blk_put (cs := #[.int .i64 t107, .int .i64 0]) ?_ 1 _ rfl; (with_reducible repeat (first | refine blk_drewN ?_ _ | refine blk_drew ?_ | refine blk_alloc ?_ _)); refine blk_put (cs := #[.int .i64 0, .int .i64 0]) ?_ 0 _ rfl; (with_reducible repeat (first | refine blk_drewN ?_ _ | refine blk_drew ?_ | refine blk_alloc ?_ _)); exact BK113.out) hg (Kd.R_away HO_4.out (fun _ hk => hk.2))); have n3_ := Aside0.mk (hb); have n4_ := Aside0.mk (ho); clear HO_0; clear HO111; clear BK113; clear HB; clear HO_4; have HO_0 := n0_; have HO111 := n1_; have BK113 := n2_; have HB := n3_; have HO116 := n4_; clear n0_ n1_ n2_ n3_ n4_; clear ho hb hg hat))
      go_roundg k1
      case measure => have := HK1.out; omega
      case rel => exact ⟨(t109), (y114), H', ⟨by have := HK1.out; omega⟩, ⟨by (with_reducible repeat (first | apply Kd.V_alloc | apply Kd.V_drewN | apply Kd.V_drew)); exact Kd.V_mono HO111.out (fun _ hk => ⟨hk.1.1, hk.2⟩)⟩, ⟨by (with_reducible repeat (first | apply Kd.R_alloc | apply Kd.R_drewN | apply Kd.R_drew)); exact Kd.R_mono HO116.out (fun _ hk => hk.1)⟩, ⟨by repeat (first | (with_reducible first | exact HB.out | apply below_alloc | apply pw_below_drewN | apply below_drew1 | refine below_set ?_ GE113.out) | exact HB.out)⟩⟩
     ·rw [if_neg c5] at H
      exact absurd H (by simp)
    ·replace c4 := Bool.eq_false_iff.mpr c4
     subst c4
     have H1 : (some (([] : List (S23)), false)) = some (r1, r2) := by rw [if_neg (show ¬ (false = true) by decide)] at H; exact H
     clear H
     have H := H1
     clear H1
     simp only [Option.some.injEq, Prod.mk.injEq] at H
     obtain ⟨rfl, rfl⟩ := H
     obtain ⟨Ao11, co11, eo11⟩ := Kd.V_slice HO_0.out
     subst eo11
     go_wp2_with (first | ((with_reducible refine gate_callee (f := 11) rfl ?_); refine goesL_ (some 13) rfl rfl Tryd.func11 (by kernel_rfl) rfl #[.slice Ao11 x0_1.length co11] rfl (by (try simp only [List.map_toArray, List.map_cons, List.map_nil]); first | done | rfl | (simp only [List.length_drop, List.length_take]; rfl)) ?_; (with_reducible refine (prefix_Get.calls k1 (fun k_ => ((P0_ k_ ∨ w.heap.size ≤ k_) ∧ some k_ ≠ (u4 : Value).ownBlock)) _ _ x0_1 t107 t108 t109 false _ ?side1 A3.out).mono ?_); (case side1 => exact HO_0.out); rintro e w12 ⟨v110, rfl, ho0, hb⟩; refine ⟨_, rfl, ?_⟩; have n0_ := Aside0.mk (Kd.V_below (by (with_reducible repeat (first | apply Kd.V_alloc | apply Kd.V_drewN | apply Kd.V_drew)); exact HO_0.out) hb); have n1_ := Aside0.mk (Kd.R_below (by (with_reducible repeat (first | apply Kd.R_alloc | apply Kd.R_drewN | apply Kd.R_drew)); exact HO_4.out) hb); have n2_ := Aside0.mk (Kd.V_lower (Kd.V_mono (ok' := fun k_ => (P0_ k_ ∨ w.heap.size ≤ k_) ∧ some k_ ≠ (u4 : Value).ownBlock) ho0 (fun k_ hk_ => ⟨Or.elim hk_ (fun hs_ => hs_.1) (fun hn_ => (.inr (Nat.le_trans (below_size (by repeat (first | (with_reducible first | exact HB.out | apply below_alloc | apply pw_below_drewN | apply below_drew1) | exact HB.out))) hn_))), Or.elim hk_ (fun hs_ => hs_.2) (fun hn_ => (Kd.fresh' (Kd.R_lt (by (with_reducible repeat (first | apply Kd.R_alloc | apply Kd.R_drewN | apply Kd.R_drew)); exact HO_4.out)) k_ hn_))⟩)) (below_size (by repeat (first | (with_reducible first | exact HB.out | apply below_alloc | apply pw_below_drewN | apply below_drew1) | exact HB.out)))); have n3_ := Aside0.mk (below_step (by repeat (first | (with_reducible first | exact HB.out | apply below_alloc | apply pw_below_drewN | apply below_drew1) | exact HB.out)) hb); clear HO_0; clear HO_4; clear HB; have HO_0 := n0_; have HO_4 := n1_; have HO111 := n2_; have HB := n3_; clear n0_ n1_ n2_ n3_; (try clear hb); (try clear hb2); (try clear hk); (try clear hi); (try clear ho0)) | ((with_reducible refine gate_dst (N := 5) rfl ?_); refine box_event ?hg (N := 5) ?hd (cs := #[.int .i64 0, .int .i64 0]) (t := 23) ?hr ?_; (case hd => rfl); (case hg => rfl); (case hr => first | (go_simp; done) | (go_simp; rfl)); intro gb113 hg w13 hbox hb; have n0_ := Aside0.mk (Kd.V_below (Kd.V_elderB (by (with_reducible repeat (first | apply Kd.V_alloc | apply Kd.V_drewN | apply Kd.V_drew)); exact HO_0.out) gb113 (Nat.le_of_eq hg.symm)) hb); have n1_ := Aside0.mk (Kd.R_below (Kd.R_elderB (by (with_reducible repeat (first | apply Kd.R_alloc | apply Kd.R_drewN | apply Kd.R_drew)); exact HO_4.out) gb113 (Nat.le_of_eq hg.symm)) hb); have n2_ := Aside0.mk (Kd.V_below (Kd.V_elderB (by (with_reducible repeat (first | apply Kd.V_alloc | apply Kd.V_drewN | apply Kd.V_drew)); exact HO111.out) gb113 (Nat.le_of_eq hg.symm)) hb); have n3_ := Aside0.mk (below_step (by repeat (first | (with_reducible first | exact HB.out | apply below_alloc | apply pw_below_drewN | apply below_drew1) | exact HB.out)) hb); have n4_ := Aside0.mk (hbox); have n5_ := Aside0.mk ((by rw [hg]; exact (below_size (by repeat (first | (with_reducible first | exact HB.out | apply below_alloc | apply pw_below_drewN | apply below_drew1) | exact HB.out))) : w.heap.size ≤ gb113)); have n6_ := Aside0.mk ((by rw [hg]; exact (below_size (by repeat (first | (with_reducible first | exact HB.out | apply below_alloc | apply pw_below_drewN | apply below_drew1) | exact HB.out))) : w.heap.size ≤ gb113)); clear HO_0; clear HO_4; clear HO111; clear HB; have HO_0 := n0_; have HO_4 := n1_; have HO111 := n2_; have HB := n3_; have BK113 := n4_; have GW113 := n5_; have GE113 := n6_; clear n0_ n1_ n2_ n3_ n4_ n5_ n6_; clear hb hbox hg; have hcz14_0 : w13.cell? ⟨gb113, 0, none⟩ = some (.int .i64 0) := (blk_cell BK113.out 0).trans rfl; have hcz14_1 : w13.cell? ⟨gb113, 1, none⟩ = some (.int .i64 0) := (blk_cell BK113.out 1).trans rfl; have hfz14_0 := blk_frozen BK113.out 0; have hfz14_1 := blk_frozen BK113.out 1))
     rw [Exit.noGoto_ret]; go_ret2
     exact ⟨_, by first | rfl | (simp [errW_none, errW_some] <;> rfl) | (simp [*, errW_none, errW_some] <;> rfl), by first | exact Kd.R_nil _ _ _ _ _ | exact Kd.N_nil _ _ _ _ _ | exact Kd.V_nil _ _ _ _ _ | exact Kd.Q_nil _ _ _ _ _ | exact Kd.S_nil _ _ _ _ _, by repeat (first | (with_reducible first | exact HB.out | apply below_alloc | apply pw_below_drewN | apply below_drew1 | refine below_set ?_ GE113.out) | exact HB.out)⟩
   ·rw [if_neg c2] at H
    have c2b0 : decide (0 < (x0_1.length : Int)) = false := decide_eq_false c2
    have c2b1 : decide (0 < x0_1.length) = false := decide_eq_false (by omega)
    clear c2
    simp only [Option.some.injEq, Prod.mk.injEq] at H
    obtain ⟨rfl, rfl⟩ := H
    obtain ⟨Ao15, co15, eo15⟩ := Kd.V_slice HO_0.out
    subst eo15
    go_wp2
    rw [Exit.noGoto_ret]; go_ret2
    exact ⟨_, by first | rfl | (simp [errW_none, errW_some] <;> rfl) | (simp [*, errW_none, errW_some] <;> rfl), by (with_reducible repeat (first | apply Kd.R_alloc | apply Kd.R_drewN | apply Kd.R_drew)); exact HO_4.out, by repeat (first | (with_reducible first | exact HB.out | apply below_alloc | apply pw_below_drewN | apply below_drew1) | exact HB.out)⟩

end Go.Proofs.YtckjfplocmbcmaaDoor.PAll
