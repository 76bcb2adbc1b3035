-- Written by a program of this session's (wip/tools), out of the translation. Lean checks it.
import Derived.Test.YtmbacpnmniemnaaPAllx0
import Derived.Test.YtmbacpnmniemnaaPAllx1
import Derived.Test.YtmbacpnmniemnaaPAllx3
namespace Go.Proofs.Ytmbacpnmniemnaa.PAll
open Go.RowKit Go.Proofs.YtmbacpnmniemnaaW.PrintWords Go.Proofs.YtmbacpnmniemnaaW.PrintLast Go.Proofs.YtmbacpnmniemnaaW.PrintMore
attribute [local go_sem] max2_int min2_int max_two min_two max_three min_three max_four min_four   -- for this text's walks alone
set_option linter.unusedVariables false
set_option linter.unusedSimpArgs false

/-! ### ridgewaylaw09_RouteLonger: function 7 -/
def ridgewaylaw09_RouteLonger.j0 : Nat → Int → Int → Int → Bool → Bool → Int → Int → List Int → Int → Int → Int → Option (Bool)
 | 0, _, _, _, _, _, _, _, _, _, _, _ => none
 | k + 1, x1, x2, x3, x9, x30, x384000, x384001, x384002, x384003, x384004, x384005 => if x30 = true then (some x9) else (if (wrap64 ((x384002.length : Int) + 1)) = 0 then (none) else ((some (([] : List Int) : List Int)).bind fun y386 => (if 0 ≤ (Int.tmod (Go.bits .and .i64 x2 65535) (wrap64 ((x384002.length : Int) + 1))) then (if (Int.tmod (Go.bits .and .i64 x2 65535) (wrap64 ((x384002.length : Int) + 1))) ≤ (x384002.length : Int) then (if y386.length + (x384002.take ((Int.tmod (Go.bits .and .i64 x2 65535) (wrap64 ((x384002.length : Int) + 1))) : Int).toNat).length < 17592186044416 then ((some (y386 ++ (x384002.take ((Int.tmod (Go.bits .and .i64 x2 65535) (wrap64 ((x384002.length : Int) + 1))) : Int).toNat) : List Int)).bind fun y390 => (if y390.length < 17592186044416 then ((some (y390 ++ [x1] : List Int)).bind fun y393 => (if y393.length + (x384002.drop ((Int.tmod (Go.bits .and .i64 x2 65535) (wrap64 ((x384002.length : Int) + 1))) : Int).toNat).length < 17592186044416 then ((some (y393 ++ (x384002.drop ((Int.tmod (Go.bits .and .i64 x2 65535) (wrap64 ((x384002.length : Int) + 1))) : Int).toNat) : List Int)).bind fun y397 => (if x9 = true then ((route_Compare.f x384000 x384001 x384002 x384003 x384004 x384005 (wrap64 (x384000 - x3)) x384001 y397 x384003 x384004 x384005).bind fun t400 => (if t400 = (-1) then ((route_Compare.f (wrap64 (x384000 - x3)) x384001 y397 x384003 x384004 x384005 x384000 x384001 x384002 x384003 x384004 x384005).bind fun t401 => (if t401 = 1 then ((route_Same.f x384000 x384001 x384002 x384003 x384004 x384005 (wrap64 (x384000 - x3)) x384001 y397 x384003 x384004 x384005).bind fun t402 => (some (!t402))) else (none))) else (none))) else (none))) else (none))) else (none))) else (none)) else (none)) else (none))))
def ridgewaylaw09_RouteLonger.f (k : Nat) (a0_0 : Int) (a0_1 : Int) (l0_2 : List Int) (a0_3 : Int) (a0_4 : Int) (a0_5 : Int) (a1 : Int) (a2 : Int) (a3 : Int) : Option (Bool) := (ridgewaylaw09_awake.f).bind fun t384 => (if (l0_2.length : Int) > 100 then (ridgewaylaw09_RouteLonger.j0 k a1 a2 a3 t384 true a0_0 a0_1 l0_2 a0_3 a0_4 a0_5) else (if a0_0 < (-1000000) then (ridgewaylaw09_RouteLonger.j0 k a1 a2 a3 t384 true a0_0 a0_1 l0_2 a0_3 a0_4 a0_5) else (if a3 < 0 then (ridgewaylaw09_RouteLonger.j0 k a1 a2 a3 t384 true a0_0 a0_1 l0_2 a0_3 a0_4 a0_5) else (ridgewaylaw09_RouteLonger.j0 k a1 a2 a3 t384 (decide (a3 > 1000000)) a0_0 a0_1 l0_2 a0_3 a0_4 a0_5))))
theorem ridgewaylaw09_RouteLonger.mono_l : ∀ k, (∀ y0 y1 y2 y3 y4 y5 y6 y7 y8 y9 y10, LeO (ridgewaylaw09_RouteLonger.j0 k y0 y1 y2 y3 y4 y5 y6 y7 y8 y9 y10) (ridgewaylaw09_RouteLonger.j0 (k + 1) y0 y1 y2 y3 y4 y5 y6 y7 y8 y9 y10))
 | 0 => fun _ _ _ _ _ _ _ _ _ _ _ r h => by simp [ridgewaylaw09_RouteLonger.j0] at h
 | k + 1 => by
  have ih0 := ridgewaylaw09_RouteLonger.mono_l k
  ·intro y0 y1 y2 y3 y4 y5 y6 y7 y8 y9 y10
   unfold ridgewaylaw09_RouteLonger.j0
   repeat' first
   | (with_reducible exact ih0 _ _ _ _ _ _ _ _ _ _ _)
   | (with_reducible exact LeO.refl _)
   | (with_reducible exact LeO.none _)
   | (with_reducible refine LeO.ite ?_ ?_)
   | (with_reducible refine LeO.bind ?_ (fun _ => ?_))
   | exact ih0 _ _ _ _ _ _ _ _ _ _ _
   | exact LeO.none _
   | refine LeO.ite ?_ ?_
   | refine LeO.bind ?_ (fun _ => ?_)
theorem ridgewaylaw09_RouteLonger.mono : ∀ a0 a1 a2 a3 a4 a5 a6 a7 a8 k, LeO (ridgewaylaw09_RouteLonger.f k a0 a1 a2 a3 a4 a5 a6 a7 a8) (ridgewaylaw09_RouteLonger.f (k + 1) a0 a1 a2 a3 a4 a5 a6 a7 a8) := by
 intro a0 a1 a2 a3 a4 a5 a6 a7 a8 k
 have ih0 := ridgewaylaw09_RouteLonger.mono_l k
 unfold ridgewaylaw09_RouteLonger.f
 repeat' first
   | (with_reducible exact ih0 _ _ _ _ _ _ _ _ _ _ _)
   | (with_reducible exact LeO.refl _)
   | (with_reducible exact LeO.none _)
   | (with_reducible refine LeO.ite ?_ ?_)
   | (with_reducible refine LeO.bind ?_ (fun _ => ?_))
   | exact ih0 _ _ _ _ _ _ _ _ _ _ _
   | exact LeO.none _
   | refine LeO.ite ?_ ?_
   | refine LeO.bind ?_ (fun _ => ?_)
def ridgewaylaw09_RouteLonger.T9 : Bool × List (List Nat × List Nat) := (true, [([], []), ([0], [0]), ([1], [1]), ([], []), ([3], [3]), ([4], [4]), ([], []), ([5, 6], [5, 6]), ([2, 7], [2, 7]), ([0, 1, 2, 3, 4, 5, 6, 7, 8], []), ([9, 0, 1, 2, 3, 4, 5, 6, 7, 8], [9]), ([10, 8, 8, 0, 1, 2, 3, 4, 5, 6, 7, 8], [8, 10])])
def ridgewaylaw09_RouteLonger.B9 : List Nat := [0, 1, 3, 0, 8, 24, 0, 120, 255, 511, 1023, 2047]
theorem ridgewaylaw09_RouteLonger.tab9 : rtab .any (opsOf Try.f7 9) = ridgewaylaw09_RouteLonger.T9 := by kernel_rfl
theorem ridgewaylaw09_RouteLonger.bits9 : waitsOk ridgewaylaw09_RouteLonger.T9.2 ridgewaylaw09_RouteLonger.B9 = true := by kernel_rfl
set_option maxHeartbeats 8000000 in
set_option maxRecDepth 100000 in
theorem ridgewaylaw09_RouteLonger.calls (k : Nat) (a0_0 : Int) (a0_1 : Int) (A0_2 : Option Addr) (c0_2 : Nat) (l0_2 : List Int) (a0_3 : Int) (a0_4 : Int) (a0_5 : Int) (a1 : Int) (a2 : Int) (a3 : Int) (r : Bool) (w : World) (hr0_2 : Kd.C (Kd.int .i64) w A0_2 l0_2.length l0_2) (hc0_2 : l0_2.length ≤ c0_2) (h : ridgewaylaw09_RouteLonger.f k a0_0 a0_1 l0_2 a0_3 a0_4 a0_5 a1 a2 a3 = some r) :
  Calls Try.prog 7 #[.agg #[.int .i64 a0_0, .int .i64 a0_1, .slice A0_2 l0_2.length c0_2, .int .i64 a0_3, .int .i64 a0_4, .int .i64 a0_5], .int .i64 a1, .int .i64 a2, .int .i64 a3] w fun e w' => e = .returned (.bool r) ∧ Below w.heap.size w w' := by
 have hu27 := Try.underlying27
 have HR0_2 := Aside0.mk hr0_2
 have HC0_2 := Aside0.mk hc0_2
 clear hr0_2 hc0_2
 have HB := Aside0.mk (Below.refl w.heap.size w)
 have H : ((ridgewaylaw09_awake.f).bind fun t384 => (if (l0_2.length : Int) > 100 then (ridgewaylaw09_RouteLonger.j0 k a1 a2 a3 t384 true a0_0 a0_1 l0_2 a0_3 a0_4 a0_5) else (if a0_0 < (-1000000) then (ridgewaylaw09_RouteLonger.j0 k a1 a2 a3 t384 true a0_0 a0_1 l0_2 a0_3 a0_4 a0_5) else (if a3 < 0 then (ridgewaylaw09_RouteLonger.j0 k a1 a2 a3 t384 true a0_0 a0_1 l0_2 a0_3 a0_4 a0_5) else (ridgewaylaw09_RouteLonger.j0 k a1 a2 a3 t384 (decide (a3 > 1000000)) a0_0 a0_1 l0_2 a0_3 a0_4 a0_5))))) = some r := h
 clear h
 replace H := Option.bind_eq_some_iff.mp H
 obtain ⟨t384, A50, H⟩ := H
 replace H : (if (l0_2.length : Int) > 100 then (ridgewaylaw09_RouteLonger.j0 k a1 a2 a3 t384 true a0_0 a0_1 l0_2 a0_3 a0_4 a0_5) else (if a0_0 < (-1000000) then (ridgewaylaw09_RouteLonger.j0 k a1 a2 a3 t384 true a0_0 a0_1 l0_2 a0_3 a0_4 a0_5) else (if a3 < 0 then (ridgewaylaw09_RouteLonger.j0 k a1 a2 a3 t384 true a0_0 a0_1 l0_2 a0_3 a0_4 a0_5) else (ridgewaylaw09_RouteLonger.j0 k a1 a2 a3 t384 (decide (a3 > 1000000)) a0_0 a0_1 l0_2 a0_3 a0_4 a0_5)))) = some r := H
 have A5 := Aside0.mk A50
 clear A50
 have HC6 := Aside0.mk H
 clear H
 go_enter Try.func7, Try.ntmps7
 go_upto_region 2 with (first | ((with_reducible refine gate_dst (N := 4) rfl ?_); refine box_event ?hg (N := 4) ?hd (cs := #[.int .i64 a0_0, .int .i64 a0_1, .slice A0_2 l0_2.length c0_2, .int .i64 a0_3, .int .i64 a0_4, .int .i64 a0_5]) (t := 27) ?hr ?_; (case hd => rfl); (case hg => rfl); (case hr => first | (go_simp; done) | (go_simp; rfl)); intro gb383 hg w7 hbox hb; have n0_ := Aside0.mk (below_step (by repeat (first | (with_reducible first | exact HB.out | apply below_alloc | apply pw_below_drewN | apply below_drew1) | exact HB.out)) hb); have n1_ := Aside0.mk (hbox); have n2_ := Aside0.mk ((by rw [hg]; exact (below_size (by repeat (first | (with_reducible first | exact HB.out | apply below_alloc | apply pw_below_drewN | apply below_drew1) | exact HB.out))) : w.heap.size ≤ gb383)); have n3_ := Aside0.mk ((by rw [hg]; exact (below_size (by repeat (first | (with_reducible first | exact HB.out | apply below_alloc | apply pw_below_drewN | apply below_drew1) | exact HB.out))) : w.heap.size ≤ gb383)); clear HB; have HB := n0_; have BK383 := n1_; have GW383 := n2_; have GE383 := n3_; clear n0_ n1_ n2_ n3_; clear hb hbox hg) | ((with_reducible refine gate_callee (f := 8) rfl ?_); refine goesL_ (some 12) rfl rfl Try.func8 (by kernel_rfl) rfl #[] rfl (by (try simp only [List.map_toArray, List.map_cons, List.map_nil]); first | done | rfl | (simp only [List.length_drop, List.length_take]; rfl)) ?_; (with_reducible refine (ridgewaylaw09_awake.calls  t384 _ A5.out).mono ?_); rintro e w8 ⟨rfl, hb⟩; refine ⟨_, rfl, ?_⟩; have n0_ := Aside0.mk (blk_below (g := gb383) (o := .cells #[.int .i64 a0_0, .int .i64 a0_1, .slice A0_2 l0_2.length c0_2, .int .i64 a0_3, .int .i64 a0_4, .int .i64 a0_5] 27 (0, 0)) (by (with_reducible repeat (first | refine blk_drewN ?_ _ | refine blk_drew ?_ | refine blk_alloc ?_ _)); exact BK383.out) hb); have n1_ := Aside0.mk (below_step (by repeat (first | (with_reducible first | exact HB.out | apply below_alloc | apply pw_below_drewN | apply below_drew1 | refine below_set ?_ GE383.out) | exact HB.out)) hb); clear BK383; clear HB; have BK383 := n0_; have HB := n1_; clear n0_ n1_; (try clear hb); (try clear hb2); (try clear hk); (try clear hi)))
 (try simp only [Act.put, List.setIfInBounds_toArray, List.set_cons_zero, List.set_cons_succ])
 go_cut [30] (fun v30 wc => ∃ (kq : Nat) (x30_5 : Bool), v30 = .bool x30_5 ∧ Aside0 (ridgewaylaw09_RouteLonger.j0 kq a1 a2 a3 t384 x30_5 a0_0 a0_1 l0_2 a0_3 a0_4 a0_5 = some r) ∧ Aside0 (kq ≤ k) ∧ Aside0 (wc.heap[gb383]? = some (.cells #[.int .i64 a0_0, .int .i64 a0_1, (.slice A0_2 l0_2.length c0_2), .int .i64 a0_3, .int .i64 a0_4, .int .i64 a0_5] 27 (0, 0))) ∧ Aside0 (Below w.heap.size w wc))
 case first =>
  have H := HC6.out
  clear HC6
  by_cases c9 : (l0_2.length : Int) > 100
  ·rw [if_pos c9] at H
   have c9b0 : decide (100 < (l0_2.length : Int)) = true := decide_eq_true c9
   have c9b1 : decide (100 < l0_2.length) = true := decide_eq_true (by omega)
   clear c9
   (first | rw [c9b0] | (simp only [i64_w, i32_w]; rw [c9b0]) | (have cw_ := c9b0; simp only [gt_iff_lt, ge_iff_le, Int.natCast_pos] at cw_; rw [cw_]; clear cw_) | skip)
   skip
   have H' := Aside0.mk H
   clear H
   have hcz10_0 : w8.cell? ⟨gb383, 0, none⟩ = some (.int .i64 a0_0) := (blk_cell BK383.out 0).trans rfl
   have hcz10_1 : w8.cell? ⟨gb383, 1, none⟩ = some (.int .i64 a0_1) := (blk_cell BK383.out 1).trans rfl
   have hcz10_2 : w8.cell? ⟨gb383, 2, none⟩ = some (.slice A0_2 l0_2.length c0_2) := (blk_cell BK383.out 2).trans rfl
   have hcz10_3 : w8.cell? ⟨gb383, 3, none⟩ = some (.int .i64 a0_3) := (blk_cell BK383.out 3).trans rfl
   have hcz10_4 : w8.cell? ⟨gb383, 4, none⟩ = some (.int .i64 a0_4) := (blk_cell BK383.out 4).trans rfl
   have hcz10_5 : w8.cell? ⟨gb383, 5, none⟩ = some (.int .i64 a0_5) := (blk_cell BK383.out 5).trans rfl
   have hfz10_0 := blk_frozen BK383.out 0
   have hfz10_1 := blk_frozen BK383.out 1
   have hfz10_2 := blk_frozen BK383.out 2
   have hfz10_3 := blk_frozen BK383.out 3
   have hfz10_4 := blk_frozen BK383.out 4
   have hfz10_5 := blk_frozen BK383.out 5
   go_wp2
   go_meet
   case rel => exact ⟨_, (true), (by first | rfl | (simp; done) | (simp [*]; done)), H', ⟨by first | omega | exact Nat.le_refl _⟩, ⟨by (with_reducible repeat (first | refine blk_drewN ?_ _ | refine blk_drew ?_ | refine blk_alloc ?_ _)); exact BK383.out⟩, ⟨by repeat (first | (with_reducible first | exact HB.out | apply below_alloc | apply pw_below_drewN | apply below_drew1 | refine below_set ?_ GE383.out) | exact HB.out)⟩⟩
  ·rw [if_neg c9] at H
   have c9b0 : decide (100 < (l0_2.length : Int)) = false := decide_eq_false c9
   have c9b1 : decide (100 < l0_2.length) = false := decide_eq_false (by omega)
   clear c9
   (first | rw [c9b0] | (simp only [i64_w, i32_w]; rw [c9b0]) | (have cw_ := c9b0; simp only [gt_iff_lt, ge_iff_le, Int.natCast_pos] at cw_; rw [cw_]; clear cw_) | skip)
   skip
   by_cases c11 : a0_0 < (-1000000)
   ·rw [if_pos c11] at H
    have c11b0 : decide (a0_0 < (-1000000)) = true := decide_eq_true c11
    clear c11
    have H' := Aside0.mk H
    clear H
    have hcz12_0 : w8.cell? ⟨gb383, 0, none⟩ = some (.int .i64 a0_0) := (blk_cell BK383.out 0).trans rfl
    have hcz12_1 : w8.cell? ⟨gb383, 1, none⟩ = some (.int .i64 a0_1) := (blk_cell BK383.out 1).trans rfl
    have hcz12_2 : w8.cell? ⟨gb383, 2, none⟩ = some (.slice A0_2 l0_2.length c0_2) := (blk_cell BK383.out 2).trans rfl
    have hcz12_3 : w8.cell? ⟨gb383, 3, none⟩ = some (.int .i64 a0_3) := (blk_cell BK383.out 3).trans rfl
    have hcz12_4 : w8.cell? ⟨gb383, 4, none⟩ = some (.int .i64 a0_4) := (blk_cell BK383.out 4).trans rfl
    have hcz12_5 : w8.cell? ⟨gb383, 5, none⟩ = some (.int .i64 a0_5) := (blk_cell BK383.out 5).trans rfl
    have hfz12_0 := blk_frozen BK383.out 0
    have hfz12_1 := blk_frozen BK383.out 1
    have hfz12_2 := blk_frozen BK383.out 2
    have hfz12_3 := blk_frozen BK383.out 3
    have hfz12_4 := blk_frozen BK383.out 4
    have hfz12_5 := blk_frozen BK383.out 5
    go_wp2
    go_meet
    case rel => exact ⟨_, (true), (by first | rfl | (simp; done) | (simp [*]; done)), H', ⟨by first | omega | exact Nat.le_refl _⟩, ⟨by (with_reducible repeat (first | refine blk_drewN ?_ _ | refine blk_drew ?_ | refine blk_alloc ?_ _)); exact BK383.out⟩, ⟨by repeat (first | (with_reducible first | exact HB.out | apply below_alloc | apply pw_below_drewN | apply below_drew1 | refine below_set ?_ GE383.out) | exact HB.out)⟩⟩
   ·rw [if_neg c11] at H
    have c11b0 : decide (a0_0 < (-1000000)) = false := decide_eq_false c11
    clear c11
    by_cases c13 : a3 < 0
    ·rw [if_pos c13] at H
     have c13b0 : decide (a3 < 0) = true := decide_eq_true c13
     clear c13
     have H' := Aside0.mk H
     clear H
     have hcz14_0 : w8.cell? ⟨gb383, 0, none⟩ = some (.int .i64 a0_0) := (blk_cell BK383.out 0).trans rfl
     have hcz14_1 : w8.cell? ⟨gb383, 1, none⟩ = some (.int .i64 a0_1) := (blk_cell BK383.out 1).trans rfl
     have hcz14_2 : w8.cell? ⟨gb383, 2, none⟩ = some (.slice A0_2 l0_2.length c0_2) := (blk_cell BK383.out 2).trans rfl
     have hcz14_3 : w8.cell? ⟨gb383, 3, none⟩ = some (.int .i64 a0_3) := (blk_cell BK383.out 3).trans rfl
     have hcz14_4 : w8.cell? ⟨gb383, 4, none⟩ = some (.int .i64 a0_4) := (blk_cell BK383.out 4).trans rfl
     have hcz14_5 : w8.cell? ⟨gb383, 5, none⟩ = some (.int .i64 a0_5) := (blk_cell BK383.out 5).trans rfl
     have hfz14_0 := blk_frozen BK383.out 0
     have hfz14_1 := blk_frozen BK383.out 1
     have hfz14_2 := blk_frozen BK383.out 2
     have hfz14_3 := blk_frozen BK383.out 3
     have hfz14_4 := blk_frozen BK383.out 4
     have hfz14_5 := blk_frozen BK383.out 5
     go_wp2
     go_meet
     case rel => exact ⟨_, (true), (by first | rfl | (simp; done) | (simp [*]; done)), H', ⟨by first | omega | exact Nat.le_refl _⟩, ⟨by (with_reducible repeat (first | refine blk_drewN ?_ _ | refine blk_drew ?_ | refine blk_alloc ?_ _)); exact BK383.out⟩, ⟨by repeat (first | (with_reducible first | exact HB.out | apply below_alloc | apply pw_below_drewN | apply below_drew1 | refine below_set ?_ GE383.out) | exact HB.out)⟩⟩
    ·rw [if_neg c13] at H
     have c13b0 : decide (a3 < 0) = false := decide_eq_false c13
     clear c13
     have H' := Aside0.mk H
     clear H
     have hcz15_0 : w8.cell? ⟨gb383, 0, none⟩ = some (.int .i64 a0_0) := (blk_cell BK383.out 0).trans rfl
     have hcz15_1 : w8.cell? ⟨gb383, 1, none⟩ = some (.int .i64 a0_1) := (blk_cell BK383.out 1).trans rfl
     have hcz15_2 : w8.cell? ⟨gb383, 2, none⟩ = some (.slice A0_2 l0_2.length c0_2) := (blk_cell BK383.out 2).trans rfl
     have hcz15_3 : w8.cell? ⟨gb383, 3, none⟩ = some (.int .i64 a0_3) := (blk_cell BK383.out 3).trans rfl
     have hcz15_4 : w8.cell? ⟨gb383, 4, none⟩ = some (.int .i64 a0_4) := (blk_cell BK383.out 4).trans rfl
     have hcz15_5 : w8.cell? ⟨gb383, 5, none⟩ = some (.int .i64 a0_5) := (blk_cell BK383.out 5).trans rfl
     have hfz15_0 := blk_frozen BK383.out 0
     have hfz15_1 := blk_frozen BK383.out 1
     have hfz15_2 := blk_frozen BK383.out 2
     have hfz15_3 := blk_frozen BK383.out 3
     have hfz15_4 := blk_frozen BK383.out 4
     have hfz15_5 := blk_frozen BK383.out 5
     go_wp2
     go_meet
     case rel => exact ⟨_, (decide (a3 > 1000000)), (by first | rfl | (simp; done) | (simp [*]; done)), H', ⟨by first | omega | exact Nat.le_refl _⟩, ⟨by (with_reducible repeat (first | refine blk_drewN ?_ _ | refine blk_drew ?_ | refine blk_alloc ?_ _)); exact BK383.out⟩, ⟨by repeat (first | (with_reducible first | exact HB.out | apply below_alloc | apply pw_below_drewN | apply below_drew1 | refine below_set ?_ GE383.out) | exact HB.out)⟩⟩
 case rest =>
  clear HC6
  try clear c1
  try clear p2
  try clear c7
  try clear c8
  try clear c9
  try clear c9b0
  try clear c9b1
  try clear c11
  try clear c11b0
  try clear c13
  try clear c13b0
  try clear hcz10_0
  try clear hcz10_1
  try clear hcz10_2
  try clear hcz10_3
  try clear hcz10_4
  try clear hcz10_5
  try clear hcz12_0
  try clear hcz12_1
  try clear hcz12_2
  try clear hcz12_3
  try clear hcz12_4
  try clear hcz12_5
  try clear hcz14_0
  try clear hcz14_1
  try clear hcz14_2
  try clear hcz14_3
  try clear hcz14_4
  try clear hcz14_5
  try clear hcz15_0
  try clear hcz15_1
  try clear hcz15_2
  try clear hcz15_3
  try clear hcz15_4
  try clear hcz15_5
  try clear hfz10_0
  try clear hfz10_1
  try clear hfz10_2
  try clear hfz10_3
  try clear hfz10_4
  try clear hfz10_5
  try clear hfz12_0
  try clear hfz12_1
  try clear hfz12_2
  try clear hfz12_3
  try clear hfz12_4
  try clear hfz12_5
  try clear hfz14_0
  try clear hfz14_1
  try clear hfz14_2
  try clear hfz14_3
  try clear hfz14_4
  try clear hfz14_5
  try clear hfz15_0
  try clear hfz15_1
  try clear hfz15_2
  try clear hfz15_3
  try clear hfz15_4
  try clear hfz15_5
  obtain ⟨kq, x30_5, rfl, HA, HJ5, BK383, HB⟩ := hcut
  cases kq with
  | zero => exact absurd HA.out (by simp [ridgewaylaw09_RouteLonger.j0])
  | succ kj5 =>
   have H := HA.out
   clear HA
   simp only [ridgewaylaw09_RouteLonger.j0] at H
   by_cases c16 : x30_5 = true
   ·subst c16
    have H1 : (some t384) = some r := by rw [if_pos rfl] at H; exact H
    clear H
    have H := H1
    clear H1
    obtain rfl := Option.some.inj H
    go_wp2
    go_ret
    exact ⟨by first | rfl | (simp [errW_none, errW_some] <;> rfl) | (simp [*, errW_none, errW_some] <;> rfl), by repeat (first | (with_reducible first | exact HB.out | apply below_alloc | apply pw_below_drewN | apply below_drew1 | refine below_set ?_ GE383.out) | exact HB.out)⟩
   ·replace c16 := Bool.eq_false_iff.mpr c16
    subst c16
    have H1 : (if (wrap64 ((l0_2.length : Int) + 1)) = 0 then (none) else ((some (([] : List Int) : List Int)).bind fun y386 => (if 0 ≤ (Int.tmod (Go.bits .and .i64 a2 65535) (wrap64 ((l0_2.length : Int) + 1))) then (if (Int.tmod (Go.bits .and .i64 a2 65535) (wrap64 ((l0_2.length : Int) + 1))) ≤ (l0_2.length : Int) then (if y386.length + (l0_2.take ((Int.tmod (Go.bits .and .i64 a2 65535) (wrap64 ((l0_2.length : Int) + 1))) : Int).toNat).length < 17592186044416 then ((some (y386 ++ (l0_2.take ((Int.tmod (Go.bits .and .i64 a2 65535) (wrap64 ((l0_2.length : Int) + 1))) : Int).toNat) : List Int)).bind fun y390 => (if y390.length < 17592186044416 then ((some (y390 ++ [a1] : List Int)).bind fun y393 => (if y393.length + (l0_2.drop ((Int.tmod (Go.bits .and .i64 a2 65535) (wrap64 ((l0_2.length : Int) + 1))) : Int).toNat).length < 17592186044416 then ((some (y393 ++ (l0_2.drop ((Int.tmod (Go.bits .and .i64 a2 65535) (wrap64 ((l0_2.length : Int) + 1))) : Int).toNat) : List Int)).bind fun y397 => (if t384 = true then ((route_Compare.f a0_0 a0_1 l0_2 a0_3 a0_4 a0_5 (wrap64 (a0_0 - a3)) a0_1 y397 a0_3 a0_4 a0_5).bind fun t400 => (if t400 = (-1) then ((route_Compare.f (wrap64 (a0_0 - a3)) a0_1 y397 a0_3 a0_4 a0_5 a0_0 a0_1 l0_2 a0_3 a0_4 a0_5).bind fun t401 => (if t401 = 1 then ((route_Same.f a0_0 a0_1 l0_2 a0_3 a0_4 a0_5 (wrap64 (a0_0 - a3)) a0_1 y397 a0_3 a0_4 a0_5).bind fun t402 => (some (!t402))) else (none))) else (none))) else (none))) else (none))) else (none))) else (none)) else (none)) else (none)))) = some r := by rw [if_neg (show ¬ (false = true) by decide)] at H; exact H
    clear H
    have H := H1
    clear H1
    by_cases c17 : (wrap64 ((l0_2.length : Int) + 1)) = 0
    ·rw [if_pos c17] at H
     exact absurd H (by simp)
    ·rw [if_neg c17] at H
     have c17b0 : ((wrap64 ((l0_2.length : Int) + 1)) == 0) = false := beq_eq_false_iff_ne.mpr c17
     have c17b1 : ((wrap64 ((l0_2.length : Int) + 1)) != 0) = true := bne_iff_ne.mpr c17
     obtain ⟨y386, hy386⟩ : ∃ y_ : List Int, y_ = (([] : List Int)) := ⟨_, rfl⟩
     replace H : (if 0 ≤ (Int.tmod (Go.bits .and .i64 a2 65535) (wrap64 ((l0_2.length : Int) + 1))) then (if (Int.tmod (Go.bits .and .i64 a2 65535) (wrap64 ((l0_2.length : Int) + 1))) ≤ (l0_2.length : Int) then (if y386.length + (l0_2.take ((Int.tmod (Go.bits .and .i64 a2 65535) (wrap64 ((l0_2.length : Int) + 1))) : Int).toNat).length < 17592186044416 then ((some (y386 ++ (l0_2.take ((Int.tmod (Go.bits .and .i64 a2 65535) (wrap64 ((l0_2.length : Int) + 1))) : Int).toNat) : List Int)).bind fun y390 => (if y390.length < 17592186044416 then ((some (y390 ++ [a1] : List Int)).bind fun y393 => (if y393.length + (l0_2.drop ((Int.tmod (Go.bits .and .i64 a2 65535) (wrap64 ((l0_2.length : Int) + 1))) : Int).toNat).length < 17592186044416 then ((some (y393 ++ (l0_2.drop ((Int.tmod (Go.bits .and .i64 a2 65535) (wrap64 ((l0_2.length : Int) + 1))) : Int).toNat) : List Int)).bind fun y397 => (if t384 = true then ((route_Compare.f a0_0 a0_1 l0_2 a0_3 a0_4 a0_5 (wrap64 (a0_0 - a3)) a0_1 y397 a0_3 a0_4 a0_5).bind fun t400 => (if t400 = (-1) then ((route_Compare.f (wrap64 (a0_0 - a3)) a0_1 y397 a0_3 a0_4 a0_5 a0_0 a0_1 l0_2 a0_3 a0_4 a0_5).bind fun t401 => (if t401 = 1 then ((route_Same.f a0_0 a0_1 l0_2 a0_3 a0_4 a0_5 (wrap64 (a0_0 - a3)) a0_1 y397 a0_3 a0_4 a0_5).bind fun t402 => (some (!t402))) else (none))) else (none))) else (none))) else (none))) else (none))) else (none)) else (none)) else (none)) = some r := by first | (rw [hy386]; with_reducible exact H) | (have H2_ := (Option.bind_some _ _).symm.trans H; rw [hy386]; with_reducible exact H2_) | (have H2_ := (Option.bind_some _ _).symm.trans H; with_reducible exact H2_) | with_reducible exact H | (rw [hy386]; exact H) | exact H
     have Ny386 := Aside0.mk hy386
     clear hy386
     obtain ⟨ji18, hji18⟩ : ∃ j_ : Int, (Int.tmod (Go.bits .and .i64 a2 65535) (wrap64 ((l0_2.length : Int) + 1))) = j_ := ⟨_, rfl⟩
     replace H : (if 0 ≤ (ji18) then (if (ji18) ≤ (l0_2.length : Int) then (if y386.length + (l0_2.take ((ji18) : Int).toNat).length < 17592186044416 then ((some (y386 ++ (l0_2.take ((ji18) : Int).toNat) : List Int)).bind fun y390 => (if y390.length < 17592186044416 then ((some (y390 ++ [a1] : List Int)).bind fun y393 => (if y393.length + (l0_2.drop ((ji18) : Int).toNat).length < 17592186044416 then ((some (y393 ++ (l0_2.drop ((ji18) : Int).toNat) : List Int)).bind fun y397 => (if t384 = true then ((route_Compare.f a0_0 a0_1 l0_2 a0_3 a0_4 a0_5 (wrap64 (a0_0 - a3)) a0_1 y397 a0_3 a0_4 a0_5).bind fun t400 => (if t400 = (-1) then ((route_Compare.f (wrap64 (a0_0 - a3)) a0_1 y397 a0_3 a0_4 a0_5 a0_0 a0_1 l0_2 a0_3 a0_4 a0_5).bind fun t401 => (if t401 = 1 then ((route_Same.f a0_0 a0_1 l0_2 a0_3 a0_4 a0_5 (wrap64 (a0_0 - a3)) a0_1 y397 a0_3 a0_4 a0_5).bind fun t402 => (some (!t402))) else (none))) else (none))) else (none))) else (none))) else (none))) else (none)) else (none)) else (none)) = some r := by first | (rw [hji18] at H; exact H) | (simp only [hji18] at H ⊢; exact H)
     by_cases c19 : 0 ≤ (ji18)
     ·rw [if_pos c19] at H
      have c19b0 := eq_true c19
      have c19b1 : decide (0 ≤ (ji18)) = true := decide_eq_true c19
      clear c19
      by_cases c20 : (ji18) ≤ (l0_2.length : Int)
      ·rw [if_pos c20] at H
       have c20b0 := eq_true c20
       have c20b1 : decide ((ji18) ≤ (l0_2.length : Int)) = true := decide_eq_true c20
       clear c20
       by_cases c21 : y386.length + (l0_2.take ((ji18) : Int).toNat).length < 17592186044416
       ·rw [if_pos c21] at H
        have LMc21 := Aside0.mk c21
        clear c21
        obtain ⟨y390, hy390⟩ : ∃ y_ : List Int, y_ = (y386 ++ (l0_2.take ((ji18) : Int).toNat)) := ⟨_, rfl⟩
        replace H : (if y390.length < 17592186044416 then ((some (y390 ++ [a1] : List Int)).bind fun y393 => (if y393.length + (l0_2.drop ((ji18) : Int).toNat).length < 17592186044416 then ((some (y393 ++ (l0_2.drop ((ji18) : Int).toNat) : List Int)).bind fun y397 => (if t384 = true then ((route_Compare.f a0_0 a0_1 l0_2 a0_3 a0_4 a0_5 (wrap64 (a0_0 - a3)) a0_1 y397 a0_3 a0_4 a0_5).bind fun t400 => (if t400 = (-1) then ((route_Compare.f (wrap64 (a0_0 - a3)) a0_1 y397 a0_3 a0_4 a0_5 a0_0 a0_1 l0_2 a0_3 a0_4 a0_5).bind fun t401 => (if t401 = 1 then ((route_Same.f a0_0 a0_1 l0_2 a0_3 a0_4 a0_5 (wrap64 (a0_0 - a3)) a0_1 y397 a0_3 a0_4 a0_5).bind fun t402 => (some (!t402))) else (none))) else (none))) else (none))) else (none))) else (none)) = some r := by first | (rw [hy390]; with_reducible exact H) | (have H2_ := (Option.bind_some _ _).symm.trans H; rw [hy390]; with_reducible exact H2_) | (have H2_ := (Option.bind_some _ _).symm.trans H; with_reducible exact H2_) | with_reducible exact H | (rw [hy390]; exact H) | exact H
        have Ny390 := Aside0.mk hy390
        clear hy390
        by_cases c22 : y390.length < 17592186044416
        ·rw [if_pos c22] at H
         have LMc22 := Aside0.mk c22
         clear c22
         obtain ⟨y393, hy393⟩ : ∃ y_ : List Int, y_ = (y390 ++ [a1]) := ⟨_, rfl⟩
         replace H : (if y393.length + (l0_2.drop ((ji18) : Int).toNat).length < 17592186044416 then ((some (y393 ++ (l0_2.drop ((ji18) : Int).toNat) : List Int)).bind fun y397 => (if t384 = true then ((route_Compare.f a0_0 a0_1 l0_2 a0_3 a0_4 a0_5 (wrap64 (a0_0 - a3)) a0_1 y397 a0_3 a0_4 a0_5).bind fun t400 => (if t400 = (-1) then ((route_Compare.f (wrap64 (a0_0 - a3)) a0_1 y397 a0_3 a0_4 a0_5 a0_0 a0_1 l0_2 a0_3 a0_4 a0_5).bind fun t401 => (if t401 = 1 then ((route_Same.f a0_0 a0_1 l0_2 a0_3 a0_4 a0_5 (wrap64 (a0_0 - a3)) a0_1 y397 a0_3 a0_4 a0_5).bind fun t402 => (some (!t402))) else (none))) else (none))) else (none))) else (none)) = some r := by first | (rw [hy393]; with_reducible exact H) | (have H2_ := (Option.bind_some _ _).symm.trans H; rw [hy393]; with_reducible exact H2_) | (have H2_ := (Option.bind_some _ _).symm.trans H; with_reducible exact H2_) | with_reducible exact H | (rw [hy393]; exact H) | exact H
         have Ny393 := Aside0.mk hy393
         clear hy393
         have c23b0 := eq_true (of_decide_eq_true (by first | (with_reducible assumption) | assumption) : 0 ≤ (ji18))
         have c24b0 := eq_true (of_decide_eq_true (by first | (with_reducible assumption) | assumption) : (ji18) ≤ (l0_2.length : Int))
         by_cases c25 : y393.length + (l0_2.drop ((ji18) : Int).toNat).length < 17592186044416
         ·rw [if_pos c25] at H
          have LMc25 := Aside0.mk c25
          clear c25
          obtain ⟨y397, hy397⟩ : ∃ y_ : List Int, y_ = (y393 ++ (l0_2.drop ((ji18) : Int).toNat)) := ⟨_, rfl⟩
          replace H : (if t384 = true then ((route_Compare.f a0_0 a0_1 l0_2 a0_3 a0_4 a0_5 (wrap64 (a0_0 - a3)) a0_1 y397 a0_3 a0_4 a0_5).bind fun t400 => (if t400 = (-1) then ((route_Compare.f (wrap64 (a0_0 - a3)) a0_1 y397 a0_3 a0_4 a0_5 a0_0 a0_1 l0_2 a0_3 a0_4 a0_5).bind fun t401 => (if t401 = 1 then ((route_Same.f a0_0 a0_1 l0_2 a0_3 a0_4 a0_5 (wrap64 (a0_0 - a3)) a0_1 y397 a0_3 a0_4 a0_5).bind fun t402 => (some (!t402))) else (none))) else (none))) else (none)) = some r := by first | (rw [hy397]; with_reducible exact H) | (have H2_ := (Option.bind_some _ _).symm.trans H; rw [hy397]; with_reducible exact H2_) | (have H2_ := (Option.bind_some _ _).symm.trans H; with_reducible exact H2_) | with_reducible exact H | (rw [hy397]; exact H) | exact H
          have Ny397 := Aside0.mk hy397
          clear hy397
          by_cases c26 : t384 = true
          ·subst c26
           have H1 : ((route_Compare.f a0_0 a0_1 l0_2 a0_3 a0_4 a0_5 (wrap64 (a0_0 - a3)) a0_1 y397 a0_3 a0_4 a0_5).bind fun t400 => (if t400 = (-1) then ((route_Compare.f (wrap64 (a0_0 - a3)) a0_1 y397 a0_3 a0_4 a0_5 a0_0 a0_1 l0_2 a0_3 a0_4 a0_5).bind fun t401 => (if t401 = 1 then ((route_Same.f a0_0 a0_1 l0_2 a0_3 a0_4 a0_5 (wrap64 (a0_0 - a3)) a0_1 y397 a0_3 a0_4 a0_5).bind fun t402 => (some (!t402))) else (none))) else (none))) = some r := by rw [if_pos rfl] at H; exact H
           clear H
           have H := H1
           clear H1
           replace H := Option.bind_eq_some_iff.mp H
           obtain ⟨t400, A270, H⟩ := H
           replace H : (if t400 = (-1) then ((route_Compare.f (wrap64 (a0_0 - a3)) a0_1 y397 a0_3 a0_4 a0_5 a0_0 a0_1 l0_2 a0_3 a0_4 a0_5).bind fun t401 => (if t401 = 1 then ((route_Same.f a0_0 a0_1 l0_2 a0_3 a0_4 a0_5 (wrap64 (a0_0 - a3)) a0_1 y397 a0_3 a0_4 a0_5).bind fun t402 => (some (!t402))) else (none))) else (none)) = some r := H
           have A27 := Aside0.mk A270
           clear A270
           by_cases c28 : t400 = (-1)
           ·rw [if_pos c28] at H
            have c28b0 : (t400 == (-1)) = true := beq_iff_eq.mpr c28
            have c28b1 : (t400 != (-1)) = false := bne_eq_false_iff_eq.mpr c28
            clear c28
            replace H := Option.bind_eq_some_iff.mp H
            obtain ⟨t401, A290, H⟩ := H
            replace H : (if t401 = 1 then ((route_Same.f a0_0 a0_1 l0_2 a0_3 a0_4 a0_5 (wrap64 (a0_0 - a3)) a0_1 y397 a0_3 a0_4 a0_5).bind fun t402 => (some (!t402))) else (none)) = some r := H
            have A29 := Aside0.mk A290
            clear A290
            by_cases c30 : t401 = 1
            ·rw [if_pos c30] at H
             have c30b0 : (t401 == 1) = true := beq_iff_eq.mpr c30
             have c30b1 : (t401 != 1) = false := bne_eq_false_iff_eq.mpr c30
             clear c30
             replace H := Option.bind_eq_some_iff.mp H
             obtain ⟨t402, A310, H⟩ := H
             replace H : (some (!t402)) = some r := H
             have A31 := Aside0.mk A310
             clear A310
             obtain rfl := Option.some.inj H
             have hcz32_0 : wc.cell? ⟨gb383, 0, none⟩ = some (.int .i64 a0_0) := (blk_cell BK383.out 0).trans rfl
             have hcz32_1 : wc.cell? ⟨gb383, 1, none⟩ = some (.int .i64 a0_1) := (blk_cell BK383.out 1).trans rfl
             have hcz32_2 : wc.cell? ⟨gb383, 2, none⟩ = some (.slice A0_2 l0_2.length c0_2) := (blk_cell BK383.out 2).trans rfl
             have hcz32_3 : wc.cell? ⟨gb383, 3, none⟩ = some (.int .i64 a0_3) := (blk_cell BK383.out 3).trans rfl
             have hcz32_4 : wc.cell? ⟨gb383, 4, none⟩ = some (.int .i64 a0_4) := (blk_cell BK383.out 4).trans rfl
             have hcz32_5 : wc.cell? ⟨gb383, 5, none⟩ = some (.int .i64 a0_5) := (blk_cell BK383.out 5).trans rfl
             have hfz32_0 := blk_frozen BK383.out 0
             have hfz32_1 := blk_frozen BK383.out 1
             have hfz32_2 := blk_frozen BK383.out 2
             have hfz32_3 := blk_frozen BK383.out 3
             have hfz32_4 := blk_frozen BK383.out 4
             have hfz32_5 := blk_frozen BK383.out 5
             try go_wp2_with (first | ((with_reducible refine gate_dst (N := 11) rfl ?_); refine box_event ?hg (N := 11) ?hd (cs := #[.int .i64 0, .int .i64 0, .slice none 0 0, .int .i64 0, .int .i64 0, .int .i64 0]) (t := 27) ?hr ?_; (case hd => rfl); (case hg => rfl); (case hr => first | (go_simp; done) | (go_simp; rfl)); intro gb385 hg w33 hbox hb; have n0_ := Aside0.mk (blk_below (g := gb383) (o := .cells #[.int .i64 a0_0, .int .i64 a0_1, .slice A0_2 l0_2.length c0_2, .int .i64 a0_3, .int .i64 a0_4, .int .i64 a0_5] 27 (0, 0)) (by (with_reducible repeat (first | refine blk_drewN ?_ _ | refine blk_drew ?_ | refine blk_alloc ?_ _)); exact BK383.out) hb); have n1_ := Aside0.mk (below_step (by repeat (first | (with_reducible first | exact HB.out | apply below_alloc | apply pw_below_drewN | apply below_drew1 | refine below_set ?_ GE383.out) | exact HB.out)) hb); have n2_ := Aside0.mk (hbox); have n3_ := Aside0.mk ((by rw [hg]; exact (below_size (by repeat (first | (with_reducible first | exact HB.out | apply below_alloc | apply pw_below_drewN | apply below_drew1 | refine below_set ?_ GE383.out) | exact HB.out))) : w.heap.size ≤ gb385)); have n4_ := Aside0.mk ((by rw [hg]; exact (below_size (by repeat (first | (with_reducible first | exact HB.out | apply below_alloc | apply pw_below_drewN | apply below_drew1 | refine below_set ?_ GE383.out) | exact HB.out))) : w.heap.size ≤ gb385)); have n5_ := Aside0.mk ((by rw [hg]; exact Nat.ne_of_lt (blk_lt (g := gb383) (o := .cells #[.int .i64 a0_0, .int .i64 a0_1, .slice A0_2 l0_2.length c0_2, .int .i64 a0_3, .int .i64 a0_4, .int .i64 a0_5] 27 (0, 0)) (by (with_reducible repeat (first | refine blk_drewN ?_ _ | refine blk_drew ?_ | refine blk_alloc ?_ _)); exact BK383.out)) : gb383 ≠ gb385)); have n6_ := Aside0.mk ((by rw [hg]; exact Nat.ne_of_gt (blk_lt (g := gb383) (o := .cells #[.int .i64 a0_0, .int .i64 a0_1, .slice A0_2 l0_2.length c0_2, .int .i64 a0_3, .int .i64 a0_4, .int .i64 a0_5] 27 (0, 0)) (by (with_reducible repeat (first | refine blk_drewN ?_ _ | refine blk_drew ?_ | refine blk_alloc ?_ _)); exact BK383.out)) : gb385 ≠ gb383)); clear BK383; clear HB; have BK383 := n0_; have HB := n1_; have BK385 := n2_; have GW385 := n3_; have GE385 := n4_; have NB383_385 := n5_; have NB385_383 := n6_; clear n0_ n1_ n2_ n3_ n4_ n5_ n6_; clear hb hbox hg; have hnb34 := NB385_383.out; have hnc34 := NB383_385.out; have hcz35_0 : w33.cell? ⟨gb385, 0, none⟩ = some (.int .i64 0) := (blk_cell BK385.out 0).trans rfl; have hcz35_1 : w33.cell? ⟨gb385, 1, none⟩ = some (.int .i64 0) := (blk_cell BK385.out 1).trans rfl; have hcz35_2 : w33.cell? ⟨gb385, 2, none⟩ = some (.slice none 0 0) := (blk_cell BK385.out 2).trans rfl; have hcz35_3 : w33.cell? ⟨gb385, 3, none⟩ = some (.int .i64 0) := (blk_cell BK385.out 3).trans rfl; have hcz35_4 : w33.cell? ⟨gb385, 4, none⟩ = some (.int .i64 0) := (blk_cell BK385.out 4).trans rfl; have hcz35_5 : w33.cell? ⟨gb385, 5, none⟩ = some (.int .i64 0) := (blk_cell BK385.out 5).trans rfl; have hfz35_0 := blk_frozen BK385.out 0; have hfz35_1 := blk_frozen BK385.out 1; have hfz35_2 := blk_frozen BK385.out 2; have hfz35_3 := blk_frozen BK385.out 3; have hfz35_4 := blk_frozen BK385.out 4; have hfz35_5 := blk_frozen BK385.out 5; have hcz36_0 : w33.cell? ⟨gb383, 0, none⟩ = some (.int .i64 a0_0) := (blk_cell BK383.out 0).trans rfl; have hcz36_1 : w33.cell? ⟨gb383, 1, none⟩ = some (.int .i64 a0_1) := (blk_cell BK383.out 1).trans rfl; have hcz36_2 : w33.cell? ⟨gb383, 2, none⟩ = some (.slice A0_2 l0_2.length c0_2) := (blk_cell BK383.out 2).trans rfl; have hcz36_3 : w33.cell? ⟨gb383, 3, none⟩ = some (.int .i64 a0_3) := (blk_cell BK383.out 3).trans rfl; have hcz36_4 : w33.cell? ⟨gb383, 4, none⟩ = some (.int .i64 a0_4) := (blk_cell BK383.out 4).trans rfl; have hcz36_5 : w33.cell? ⟨gb383, 5, none⟩ = some (.int .i64 a0_5) := (blk_cell BK383.out 5).trans rfl; have hfz36_0 := blk_frozen BK383.out 0; have hfz36_1 := blk_frozen BK383.out 1; have hfz36_2 := blk_frozen BK383.out 2; have hfz36_3 := blk_frozen BK383.out 3; have hfz36_4 := blk_frozen BK383.out 4; have hfz36_5 := blk_frozen BK383.out 5) | ((with_reducible refine gate_dst (N := 46) rfl ?_); refine Kd.R_lit (Kd.int .i64) _ 3 ?hg (N := 46) ?hd (xs := ([] : List Int)) (inner := []) (ok := fun _ => True) (okp := fun _ => True) ?hr ?hp (fun _ hk => hk) trivial (Below.refl _ _) (Nat.le_refl _) (by simp) ?_; (case hd => rfl); (case hg => rfl); (case hr => first | (go_simp; done) | (go_simp; rfl)); (case hp => exact (Reps.none _ _)); intro v387 w37 ho38 hb hg_ hnew_; clear hg_ hnew_; (first | rw [← Ny386.out] at ho38 | (simp only [Int.reduceToNat] at ho38; rw [← Ny386.out] at ho38)); have n0_ := Aside0.mk (Kd.R_lower ho38 (below_size (by repeat (first | (with_reducible first | exact HB.out | apply below_alloc | apply pw_below_drewN | apply below_drew1 | refine below_set ?_ GE383.out | refine below_set ?_ GE385.out) | exact HB.out)))); have n1_ := Aside0.mk (blk_below (g := gb383) (o := .cells #[.int .i64 a0_0, .int .i64 a0_1, .slice A0_2 l0_2.length c0_2, .int .i64 a0_3, .int .i64 a0_4, .int .i64 a0_5] 27 (0, 0)) (by (with_reducible repeat (first | refine blk_drewN ?_ _ | refine blk_drew ?_ | refine blk_alloc ?_ _)); refine blk_far ?_ NB383_385.out _; (with_reducible repeat (first | refine blk_drewN ?_ _ | refine blk_drew ?_ | refine blk_alloc ?_ _)); refine blk_far ?_ NB383_385.out _; (with_reducible repeat (first | refine blk_drewN ?_ _ | refine blk_drew ?_ | refine blk_alloc ?_ _)); refine blk_far ?_ NB383_385.out _; (with_reducible repeat (first | refine blk_drewN ?_ _ | refine blk_drew ?_ | refine blk_alloc ?_ _)); refine blk_far ?_ NB383_385.out _; (with_reducible repeat (first | refine blk_drewN ?_ _ | refine blk_drew ?_ | refine blk_alloc ?_ _)); refine blk_far ?_ NB383_385.out _; (with_reducible repeat (first | refine blk_drewN ?_ _ | refine blk_drew ?_ | refine blk_alloc ?_ _)); refine blk_far ?_ NB383_385.out _; (with_reducible repeat (first | refine blk_drewN ?_ _ | refine blk_drew ?_ | refine blk_alloc ?_ _)); refine blk_far ?_ NB383_385.out _; (with_reducible repeat (first | refine blk_drewN ?_ _ | refine blk_drew ?_ | refine blk_alloc ?_ _)); exact BK383.out) hb); have n2_ := Aside0.mk (blk_below (g := gb385) (o := .cells #[.int .i64 (wrap64 (a0_0 - a3)), .int .i64 a0_1, .slice A0_2 l0_2.length c0_2, .int .i64 a0_3, .int .i64 a0_4, .int .i64 a0_5] 27 (0, 0)) (by (with_reducible repeat (first | refine blk_drewN ?_ _ | refine blk_drew ?_ | refine blk_alloc ?_ _)); refine blk_put (cs := #[.int .i64 a0_0, .int .i64 a0_1, .slice A0_2 l0_2.length c0_2, .int .i64 a0_3, .int .i64 a0_4, .int .i64 a0_5]) ?_ 0 _ rfl; (with_reducible repeat (first | refine blk_drewN ?_ _ | refine blk_drew ?_ | refine blk_alloc ?_ _)); refine blk_put (cs := #[.int .i64 a0_0, .int .i64 a0_1, .slice A0_2 l0_2.length c0_2, .int .i64 a0_3, .int .i64 a0_4, .int .i64 0]) ?_ 5 _ rfl; (with_reducible repeat (first | refine blk_drewN ?_ _ | refine blk_drew ?_ | refine blk_alloc ?_ _)); refine blk_put (cs := #[.int .i64 a0_0, .int .i64 a0_1, .slice A0_2 l0_2.length c0_2, .int .i64 a0_3, .int .i64 0, .int .i64 0]) ?_ 4 _ rfl; (with_reducible repeat (first | refine blk_drewN ?_ _ | refine blk_drew ?_ | refine blk_alloc ?_ _)); refine blk_put (cs := #[.int .i64 a0_0, .int .i64 a0_1, .slice A0_2 l0_2.length c0_2, .int .i64 0, .int .i64 0, .int .i64 0]) ?_ 3 _ rfl; (with_reducible repeat (first | refine blk_drewN ?_ _ | refine blk_drew ?_ | refine blk_alloc ?_ _)); refine blk_put (cs := #[.int .i64 a0_0, .int .i64 a0_1, .slice none 0 0, .int .i64 0, .int .i64 0, .int .i64 0]) ?_ 2 _ rfl; (with_reducible repeat (first | refine blk_drewN ?_ _ | refine blk_drew ?_ | refine blk_alloc ?_ _)); refine blk_put (cs := #[.int .i64 a0_0, .int .i64 0, .slice none 0 0, .int .i64 0, .int .i64 0, .int .i64 0]) ?_ 1 _ rfl; (with_reducible repeat (first | refine blk_drewN ?_ _ | refine blk_drew ?_ | refine blk_alloc ?_ _)); refine blk_put (cs := #[.int .i64 0, .int .i64 0, .slice none 0 0, .int .i64 0, .int .i64 0, .int .i64 0]) ?_ 0 _ rfl; (with_reducible repeat (first | refine blk_drewN ?_ _ | refine blk_drew ?_ | refine blk_alloc ?_ _)); exact BK385.out) hb); have n3_ := Aside0.mk (below_step (by repeat (first | (with_reducible first | exact HB.out | apply below_alloc | apply pw_below_drewN | apply below_drew1 | refine below_set ?_ GE383.out | refine below_set ?_ GE385.out) | exact HB.out)) hb); clear BK383; clear BK385; clear HB; have HO388 := n0_; have BK383 := n1_; have BK385 := n2_; have HB := n3_; clear n0_ n1_ n2_ n3_; clear hb ho38; have hcz39_0 : w37.cell? ⟨gb383, 0, none⟩ = some (.int .i64 a0_0) := (blk_cell BK383.out 0).trans rfl; have hcz39_1 : w37.cell? ⟨gb383, 1, none⟩ = some (.int .i64 a0_1) := (blk_cell BK383.out 1).trans rfl; have hcz39_2 : w37.cell? ⟨gb383, 2, none⟩ = some (.slice A0_2 l0_2.length c0_2) := (blk_cell BK383.out 2).trans rfl; have hcz39_3 : w37.cell? ⟨gb383, 3, none⟩ = some (.int .i64 a0_3) := (blk_cell BK383.out 3).trans rfl; have hcz39_4 : w37.cell? ⟨gb383, 4, none⟩ = some (.int .i64 a0_4) := (blk_cell BK383.out 4).trans rfl; have hcz39_5 : w37.cell? ⟨gb383, 5, none⟩ = some (.int .i64 a0_5) := (blk_cell BK383.out 5).trans rfl; have hfz39_0 := blk_frozen BK383.out 0; have hfz39_1 := blk_frozen BK383.out 1; have hfz39_2 := blk_frozen BK383.out 2; have hfz39_3 := blk_frozen BK383.out 3; have hfz39_4 := blk_frozen BK383.out 4; have hfz39_5 := blk_frozen BK383.out 5; obtain ⟨i040, hi040, _, hsz40, _⟩ := info_parts info3; obtain ⟨hcut40, hA40, hC40⟩ := print_take_of (P := Try.prog) (Value.int .i64) 0 23 3 .i64 Try.underlying23 hi040 hsz40 A0_2 c0_2 l0_2 (ji18) (of_decide_eq_true (by first | (with_reducible assumption) | assumption)) (of_decide_eq_true (by first | (with_reducible assumption) | assumption)) HC0_2.out; have HR389 := Aside0.mk (Kd.C_of_reads (h1 := fun _ => rfl) (hA40 _ (Kd.reads_of_C HR0_2.out))); have HC389 := Aside0.mk hC40; clear hA40 hC40 hi040 hsz40) | ((with_reducible refine gate_builtin (b := .append) (xs := #[.tmp 46, .tmp 51]) rfl ?_); at_builtin; refine Kd.R_append_rows (Kd.int .i64) (w0 := w) w.heap.size rfl (.tmp 46) (.tmp 51) 23 3 (.int .i64 0) 8 rfl Try.underlying23 info3 rfl (by decide) (by omega) v387 y386 (l0_2.take ((ji18) : Int).toNat) _ _ _ (fun _ => True) (fun _ => False) rfl rfl ?aO ?aR (fun _ _ h => h) (fun _ h => h.elim) ?aF ?aB ?aS ?aL ?_; (case aR => first | (have e9_ : (l0_2.take ((ji18) : Int).toNat).length = (ji18).toNat := (by rw [List.length_take]; have h_ : ((ji18) : Int) ≤ (l0_2.length : Int) := of_decide_eq_true (by first | (with_reducible assumption) | assumption); omega); have h9_ := Kd.C_below HR389.out HB.out; rw [e9_] at h9_; exact h9_) | (rw [← show (l0_2.take ((ji18) : Int).toNat).length = (ji18).toNat from (by rw [List.length_take]; have h_ : ((ji18) : Int) ≤ (l0_2.length : Int) := of_decide_eq_true (by first | (with_reducible assumption) | assumption); omega)]; repeat (first | exact (Kd.C_below HR389.out HB.out) | (with_reducible refine Kd.C_alloc ?_ _) | (with_reducible refine Kd.C_drewN ?_ _) | (with_reducible refine Kd.C_drew ?_))) | (repeat (first | exact (Kd.C_below HR389.out HB.out) | (with_reducible refine Kd.C_alloc ?_ _) | (with_reducible refine Kd.C_drewN ?_ _) | (with_reducible refine Kd.C_drew ?_)))); (case aB => exact (by repeat (first | (with_reducible first | exact HB.out | apply below_alloc | apply pw_below_drewN | apply below_drew1 | refine below_set ?_ GE383.out | refine below_set ?_ GE385.out) | exact HB.out))); (case aF => exact (fun _ _ => trivial)); (case aO => exact (by (with_reducible repeat (first | apply Kd.R_alloc | apply Kd.R_drewN | apply Kd.R_drew)); exact HO388.out)); (case aS => exact (below_size (by repeat (first | (with_reducible first | exact HB.out | apply below_alloc | apply pw_below_drewN | apply below_drew1 | refine below_set ?_ GE383.out | refine below_set ?_ GE385.out) | exact HB.out)))); (case aL => have := LMc21.out; have hlx_ := (show (l0_2.take ((ji18) : Int).toNat).length = (ji18).toNat from (by rw [List.length_take]; have h_ : ((ji18) : Int) ≤ (l0_2.length : Int) := of_decide_eq_true (by first | (with_reducible assumption) | assumption); omega)); omega); intro v391 w41 ho hb hg hat; rw [← Ny390.out] at ho; have n0_ := Aside0.mk (blk_grown (g := gb383) (o := .cells #[.int .i64 a0_0, .int .i64 a0_1, .slice A0_2 l0_2.length c0_2, .int .i64 a0_3, .int .i64 a0_4, .int .i64 a0_5] 27 (0, 0)) (by (with_reducible repeat (first | refine blk_drewN ?_ _ | refine blk_drew ?_ | refine blk_alloc ?_ _)); exact BK383.out) hg (Kd.R_ne HO388.out BK383.out (by decide))); have n1_ := Aside0.mk (blk_grown (g := gb385) (o := .cells #[.int .i64 (wrap64 (a0_0 - a3)), .int .i64 a0_1, .slice A0_2 l0_2.length c0_2, .int .i64 a0_3, .int .i64 a0_4, .int .i64 a0_5] 27 (0, 0)) (by (with_reducible repeat (first | refine blk_drewN ?_ _ | refine blk_drew ?_ | refine blk_alloc ?_ _)); exact BK385.out) hg (Kd.R_ne HO388.out BK385.out (by decide))); have n2_ := Aside0.mk (hb); have n3_ := Aside0.mk (ho); clear BK383; clear BK385; clear HB; clear HO388; have BK383 := n0_; have BK385 := n1_; have HB := n2_; have HO392 := n3_; clear n0_ n1_ n2_ n3_; clear ho hb hg hat; obtain ⟨Ao42, co42, eo42⟩ := Kd.R_slice HO392.out; subst eo42; have hcz43_0 : w41.cell? ⟨gb385, 0, none⟩ = some (.int .i64 (wrap64 (a0_0 - a3))) := (blk_cell BK385.out 0).trans rfl; have hcz43_1 : w41.cell? ⟨gb385, 1, none⟩ = some (.int .i64 a0_1) := (blk_cell BK385.out 1).trans rfl; have hcz43_2 : w41.cell? ⟨gb385, 2, none⟩ = some (.slice A0_2 l0_2.length c0_2) := (blk_cell BK385.out 2).trans rfl; have hcz43_3 : w41.cell? ⟨gb385, 3, none⟩ = some (.int .i64 a0_3) := (blk_cell BK385.out 3).trans rfl; have hcz43_4 : w41.cell? ⟨gb385, 4, none⟩ = some (.int .i64 a0_4) := (blk_cell BK385.out 4).trans rfl; have hcz43_5 : w41.cell? ⟨gb385, 5, none⟩ = some (.int .i64 a0_5) := (blk_cell BK385.out 5).trans rfl; have hfz43_0 := blk_frozen BK385.out 0; have hfz43_1 := blk_frozen BK385.out 1; have hfz43_2 := blk_frozen BK385.out 2; have hfz43_3 := blk_frozen BK385.out 3; have hfz43_4 := blk_frozen BK385.out 4; have hfz43_5 := blk_frozen BK385.out 5) | ((with_reducible refine gate_builtin (b := .append) (xs := #[.tmp 57, .tmp 59]) rfl ?_); at_builtin; refine Kd.R_append (Kd.int .i64) (w0 := w) w.heap.size rfl (.tmp 57) (.tmp 59) 23 3 (.int .i64 0) 8 rfl Try.underlying23 info3 rfl (by decide) (by omega) (.slice Ao42 y390.length co42) y390 a1 [.int .i64 a1] (fun _ => True) (fun _ => False) rfl (by first | (go_simp; done) | (go_simp; rfl)) ?aP (fun _ hk => hk.elim) ?aF ?aO ?aB ?aS ?aL ?_; (case aP => exact rfl); (case aB => exact (by repeat (first | (with_reducible first | exact HB.out | apply below_alloc | apply pw_below_drewN | apply below_drew1 | refine below_set ?_ GE383.out | refine below_set ?_ GE385.out) | exact HB.out))); (case aF => exact (fun _ _ => trivial)); (case aO => exact (by (with_reducible repeat (first | apply Kd.R_alloc | apply Kd.R_drewN | apply Kd.R_drew)); exact Kd.R_mono (Kd.R_far (p := ⟨gb385, 2, none⟩) (Kd.R_types HO392.out BK385.out (by decide)) (fun _ hk => hk.2) (.slice Ao42 y390.length co42)) (fun _ hk => trivial))); (case aS => exact (below_size (by repeat (first | (with_reducible first | exact HB.out | apply below_alloc | apply pw_below_drewN | apply below_drew1 | refine below_set ?_ GE383.out | refine below_set ?_ GE385.out) | exact HB.out)))); (case aL => have := LMc22.out; omega); intro v394 w44 ho hb hg hat; rw [← Ny393.out] at ho; have n0_ := Aside0.mk (blk_grown (g := gb383) (o := .cells #[.int .i64 a0_0, .int .i64 a0_1, .slice A0_2 l0_2.length c0_2, .int .i64 a0_3, .int .i64 a0_4, .int .i64 a0_5] 27 (0, 0)) (by (with_reducible repeat (first | refine blk_drewN ?_ _ | refine blk_drew ?_ | refine blk_alloc ?_ _)); refine blk_far ?_ NB383_385.out _; (with_reducible repeat (first | refine blk_drewN ?_ _ | refine blk_drew ?_ | refine blk_alloc ?_ _)); exact BK383.out) hg (Kd.R_ne HO392.out BK383.out (by decide))); have n1_ := Aside0.mk (blk_grown (g := gb385) (o := .cells #[.int .i64 (wrap64 (a0_0 - a3)), .int .i64 a0_1, .slice Ao42 y390.length co42, .int .i64 a0_3, .int .i64 a0_4, .int .i64 a0_5] 27 (0, 0)) (by (with_reducible repeat (first | refine blk_drewN ?_ _ | refine blk_drew ?_ | refine blk_alloc ?_ _)); refine blk_put (cs := #[.int .i64 (wrap64 (a0_0 - a3)), .int .i64 a0_1, .slice A0_2 l0_2.length c0_2, .int .i64 a0_3, .int .i64 a0_4, .int .i64 a0_5]) ?_ 2 _ rfl; (with_reducible repeat (first | refine blk_drewN ?_ _ | refine blk_drew ?_ | refine blk_alloc ?_ _)); exact BK385.out) hg (Kd.R_ne HO392.out BK385.out (by decide))); have n2_ := Aside0.mk (hb); have n3_ := Aside0.mk (ho); clear BK383; clear BK385; clear HB; clear HO392; have BK383 := n0_; have BK385 := n1_; have HB := n2_; have HO395 := n3_; clear n0_ n1_ n2_ n3_; clear ho hb hg hat; obtain ⟨Ao45, co45, eo45⟩ := Kd.R_slice HO395.out; subst eo45; have hcz46_0 : w44.cell? ⟨gb385, 0, none⟩ = some (.int .i64 (wrap64 (a0_0 - a3))) := (blk_cell BK385.out 0).trans rfl; have hcz46_1 : w44.cell? ⟨gb385, 1, none⟩ = some (.int .i64 a0_1) := (blk_cell BK385.out 1).trans rfl; have hcz46_2 : w44.cell? ⟨gb385, 2, none⟩ = some (.slice Ao42 y390.length co42) := (blk_cell BK385.out 2).trans rfl; have hcz46_3 : w44.cell? ⟨gb385, 3, none⟩ = some (.int .i64 a0_3) := (blk_cell BK385.out 3).trans rfl; have hcz46_4 : w44.cell? ⟨gb385, 4, none⟩ = some (.int .i64 a0_4) := (blk_cell BK385.out 4).trans rfl; have hcz46_5 : w44.cell? ⟨gb385, 5, none⟩ = some (.int .i64 a0_5) := (blk_cell BK385.out 5).trans rfl; have hfz46_0 := blk_frozen BK385.out 0; have hfz46_1 := blk_frozen BK385.out 1; have hfz46_2 := blk_frozen BK385.out 2; have hfz46_3 := blk_frozen BK385.out 3; have hfz46_4 := blk_frozen BK385.out 4; have hfz46_5 := blk_frozen BK385.out 5))
             have n0_ : Aside0 (Kd.R (Kd.int .i64) 3 (w44.setCell ⟨gb385, 2, none⟩ (.slice Ao45 y393.length co45)) w.heap.size (fun _ => True) (.slice Ao45 y393.length co45) y393) := ⟨by (with_reducible repeat (first | apply Kd.R_alloc | apply Kd.R_drewN | apply Kd.R_drew)); exact Kd.R_mono (Kd.R_far (p := ⟨gb385, 2, none⟩) (Kd.R_types HO395.out BK385.out (by decide)) (fun _ hk => hk.2) (.slice Ao45 y393.length co45)) (fun _ hk => trivial)⟩
             have n1_ : Aside0 ((w44.setCell ⟨gb385, 2, none⟩ (.slice Ao45 y393.length co45)).heap[gb383]? = some (.cells #[.int .i64 a0_0, .int .i64 a0_1, .slice A0_2 l0_2.length c0_2, .int .i64 a0_3, .int .i64 a0_4, .int .i64 a0_5] 27 (0, 0))) := ⟨by (with_reducible repeat (first | refine blk_drewN ?_ _ | refine blk_drew ?_ | refine blk_alloc ?_ _)); refine blk_far ?_ NB383_385.out _; (with_reducible repeat (first | refine blk_drewN ?_ _ | refine blk_drew ?_ | refine blk_alloc ?_ _)); exact BK383.out⟩
             have n2_ : Aside0 ((w44.setCell ⟨gb385, 2, none⟩ (.slice Ao45 y393.length co45)).heap[gb385]? = some (.cells #[.int .i64 (wrap64 (a0_0 - a3)), .int .i64 a0_1, .slice Ao45 y393.length co45, .int .i64 a0_3, .int .i64 a0_4, .int .i64 a0_5] 27 (0, 0))) := ⟨by (with_reducible repeat (first | refine blk_drewN ?_ _ | refine blk_drew ?_ | refine blk_alloc ?_ _)); refine blk_put (cs := #[.int .i64 (wrap64 (a0_0 - a3)), .int .i64 a0_1, .slice Ao42 y390.length co42, .int .i64 a0_3, .int .i64 a0_4, .int .i64 a0_5]) ?_ 2 _ rfl; (with_reducible repeat (first | refine blk_drewN ?_ _ | refine blk_drew ?_ | refine blk_alloc ?_ _)); exact BK385.out⟩
             have n3_ : Aside0 (Below w.heap.size w (w44.setCell ⟨gb385, 2, none⟩ (.slice Ao45 y393.length co45))) := ⟨by repeat (first | (with_reducible first | exact HB.out | apply below_alloc | apply pw_below_drewN | apply below_drew1 | refine below_set ?_ GE383.out | refine below_set ?_ GE385.out) | exact HB.out)⟩
             (try clear HO395)
             (try clear BK383)
             (try clear BK385)
             (try clear HB)
             generalize (w44.setCell ⟨gb385, 2, none⟩ (.slice Ao45 y393.length co45)) = w47 at n0_ n1_ n2_ n3_ ⊢
             have HO395 := n0_
             have BK383 := n1_
             have BK385 := n2_
             have HB := n3_
             clear n0_ n1_ n2_ n3_
             have n0_ := Aside0.mk (Kd.R_drew HO395.out)
             have n1_ := Aside0.mk (blk_drew BK383.out)
             have n2_ := Aside0.mk (blk_drew BK385.out)
             have n3_ := Aside0.mk (below_drew1 HB.out)
             clear HO395
             clear BK383
             clear BK385
             clear HB
             have HO395 := n0_
             have BK383 := n1_
             have BK385 := n2_
             have HB := n3_
             clear n0_ n1_ n2_ n3_
             obtain ⟨i049, hi049, _, hsz49, _⟩ := info_parts info3
             obtain ⟨A49, hcut49, hA49, hC49⟩ := print_drop_of (P := Try.prog) (Value.int .i64) 0 23 3 .i64 Try.underlying23 hi049 hsz49 A0_2 c0_2 l0_2 (ji18) (of_decide_eq_true (by first | (with_reducible assumption) | assumption)) (of_decide_eq_true (by first | (with_reducible assumption) | assumption)) HC0_2.out
             have HR396 := Aside0.mk (Kd.C_of_reads (h1 := fun _ => rfl) (hA49 _ (Kd.reads_of_C HR0_2.out)))
             have HC396 := Aside0.mk hC49
             clear hA49 hC49 hi049 hsz49
             refine start_ (n := 12) (S := fun w' => w'.cell? ⟨gb385, 0, none⟩ = some (.int .i64 (wrap64 (a0_0 - a3))) ∧ w'.cell? ⟨gb385, 1, none⟩ = some (.int .i64 a0_1) ∧ w'.cell? ⟨gb385, 2, none⟩ = some (.slice Ao45 y393.length co45) ∧ w'.cell? ⟨gb385, 3, none⟩ = some (.int .i64 a0_3) ∧ w'.cell? ⟨gb385, 4, none⟩ = some (.int .i64 a0_4) ∧ w'.cell? ⟨gb385, 5, none⟩ = some (.int .i64 a0_5) ∧ w'.cell? ⟨gb383, 0, none⟩ = some (.int .i64 a0_0) ∧ w'.cell? ⟨gb383, 1, none⟩ = some (.int .i64 a0_1) ∧ w'.cell? ⟨gb383, 2, none⟩ = some (.slice A0_2 l0_2.length c0_2) ∧ w'.cell? ⟨gb383, 3, none⟩ = some (.int .i64 a0_3) ∧ w'.cell? ⟨gb383, 4, none⟩ = some (.int .i64 a0_4) ∧ w'.cell? ⟨gb383, 5, none⟩ = some (.int .i64 a0_5)) (ds := [11]) #[false, false, false, false, false, false, false, false, false, false, false, false] (by kernel_rfl) rfl rfl ⟨(blk_cell BK385.out 0).trans rfl, (blk_cell BK385.out 1).trans rfl, (blk_cell BK385.out 2).trans rfl, (blk_cell BK385.out 3).trans rfl, (blk_cell BK385.out 4).trans rfl, (blk_cell BK385.out 5).trans rfl, (blk_cell BK383.out 0).trans rfl, (blk_cell BK383.out 1).trans rfl, (blk_cell BK383.out 2).trans rfl, (blk_cell BK383.out 3).trans rfl, (blk_cell BK383.out 4).trans rfl, (blk_cell BK383.out 5).trans rfl⟩ (fun hHeld => ?_); refine with_tabW ridgewaylaw09_RouteLonger.tab9 ridgewaylaw09_RouteLonger.bits9 (fun HT_ HW_ => ?_)
             generalize w47.drew = w48 at HO395 BK383 BK385 HB HR396 hHeld ⊢
             refine pure_ (i := 0) (N := some 63) (v := ?_) (a' := ?_) #[true, false, false, false, false, false, false, false, false, false, false, false] rfl rfl (any_of HT_.out (by kernel_rfl)) (fun _ _ _ h => h) (Or.inl ⟨by rfl, ?_⟩) ?_ ?_
             rotate_left
             ·intro w'
              go_simp
              with_reducible rfl
             rotate_left
             ·simp only [Act.put, List.setIfInBounds_toArray, List.set_cons_zero, List.set_cons_succ, i64_w, i32_w]
              rfl
             refine pure_ (i := 1) (N := some 64) (v := ?_) (a' := ?_) #[true, true, false, false, false, false, false, false, false, false, false, false] rfl rfl (any_of HT_.out (by kernel_rfl)) (fun _ _ _ h => h) (Or.inl ⟨by rfl, ?_⟩) ?_ ?_
             rotate_left
             ·intro w'
              go_simp
              with_reducible rfl
             rotate_left
             ·simp only [Act.put, List.setIfInBounds_toArray, List.set_cons_zero, List.set_cons_succ, i64_w, i32_w]
              rfl
             refine pure_ (i := 3) (N := some 66) (v := ?_) (a' := ?_) #[true, true, false, true, false, false, false, false, false, false, false, false] rfl rfl (any_of HT_.out (by kernel_rfl)) (fun _ _ _ h => h) (Or.inl ⟨by rfl, ?_⟩) ?_ ?_
             rotate_left
             ·intro w'
              go_simp
              with_reducible rfl
             rotate_left
             ·simp only [Act.put, List.setIfInBounds_toArray, List.set_cons_zero, List.set_cons_succ, i64_w, i32_w]
              rfl
             refine pure_ (i := 4) (N := some 67) (v := ?_) (a' := ?_) #[true, true, false, true, true, false, false, false, false, false, false, false] rfl rfl (any_of HT_.out (by kernel_rfl)) (fun _ _ _ h => h) (Or.inl ⟨by rfl, ?_⟩) ?_ ?_
             rotate_left
             ·intro w'
              go_simp
              with_reducible rfl
             rotate_left
             ·simp only [Act.put, List.setIfInBounds_toArray, List.set_cons_zero, List.set_cons_succ, i64_w, i32_w]
              rfl
             refine pure_ (i := 6) (N := some 69) (v := ?_) (a' := ?_) #[true, true, false, true, true, false, true, false, false, false, false, false] rfl rfl (any_of HT_.out (by kernel_rfl)) (fun _ _ _ h => h) (Or.inl ⟨by rfl, ?_⟩) ?_ ?_
             rotate_left
             ·intro w'
              go_simp
              with_reducible rfl
             rotate_left
             ·simp only [Act.put, List.setIfInBounds_toArray, List.set_cons_zero, List.set_cons_succ, i64_w, i32_w]
              rfl
             refine take_ (i := 2) (N := some 65) (v := ?_) (a' := ?_) #[true, true, true, true, true, false, true, false, false, false, false, false] rfl rfl (take_ofW HT_.out HW_.out (by kernel_rfl)) (fun _ _ _ h => h) (Or.inl ⟨by rfl, ?_⟩) hHeld ?_ ?_
             rotate_left
             ·rintro w' ⟨s0, s1, s2, s3, s4, s5, s6, s7, s8, s9, s10, s11⟩
              go_simp
              with_reducible rfl
             rotate_left
             ·simp only [Act.put, List.setIfInBounds_toArray, List.set_cons_zero, List.set_cons_succ, i64_w, i32_w]
              rfl
             refine take_ (i := 5) (N := some 68) (v := ?_) (a' := ?_) #[true, true, true, true, true, true, true, false, false, false, false, false] rfl rfl (take_ofW HT_.out HW_.out (by kernel_rfl)) (fun _ _ _ h => h) (Or.inl ⟨by rfl, ?_⟩) hHeld ?_ ?_
             rotate_left
             ·rintro w' ⟨s0, s1, s2, s3, s4, s5, s6, s7, s8, s9, s10, s11⟩
              go_simp
              with_reducible rfl
             rotate_left
             ·simp only [Act.put, List.setIfInBounds_toArray, List.set_cons_zero, List.set_cons_succ, i64_w, i32_w]
              rfl
             refine pure_ (i := 7) (N := some 70) (v := ?_) (a' := ?_) #[true, true, true, true, true, true, true, true, false, false, false, false] rfl rfl (any_of HT_.out (by kernel_rfl)) (fun _ _ _ h => h) (Or.inl ⟨by rfl, ?_⟩) ?_ ?_
             rotate_left
             ·intro w'
              go_simp
              with_reducible rfl
             rotate_left
             ·simp only [Act.put, List.setIfInBounds_toArray, List.set_cons_zero, List.set_cons_succ, i64_w, i32_w]
              rfl
             refine one_ (i := 8) (N := some 71) #[true, true, true, true, true, true, true, true, true, false, false, false] rfl rfl (one_of HT_.out (by kernel_rfl)) (by decide) (fun K hK => ?_)
             refine Kd.R_append_rows_step (Kd.int .i64) (w0 := w) w.heap.size (by rfl) (.tmp 65) (.tmp 70) 23 3 (.int .i64 0) 8 rfl Try.underlying23 info3 rfl (by decide) (by omega) (.slice Ao45 y393.length co45) y393 (l0_2.drop ((ji18) : Int).toNat) _ _ _ (fun _ => True) (fun _ => False) rfl rfl ?aO ?aR (fun _ _ h => h) (fun _ h => h.elim) ?aF ?aB ?aS ?aL ?_
             (case aR => first | (have e9_ : (l0_2.drop ((ji18) : Int).toNat).length = (l0_2.length - (ji18).toNat) := List.length_drop; have h9_ := Kd.C_below HR396.out HB.out; rw [e9_] at h9_; exact h9_) | (rw [← show (l0_2.drop ((ji18) : Int).toNat).length = (l0_2.length - (ji18).toNat) from List.length_drop]; repeat (first | exact (Kd.C_below HR396.out HB.out) | (with_reducible refine Kd.C_alloc ?_ _) | (with_reducible refine Kd.C_drewN ?_ _) | (with_reducible refine Kd.C_drew ?_))) | (repeat (first | exact (Kd.C_below HR396.out HB.out) | (with_reducible refine Kd.C_alloc ?_ _) | (with_reducible refine Kd.C_drewN ?_ _) | (with_reducible refine Kd.C_drew ?_))))
             (case aB => exact (by repeat (first | (with_reducible first | exact HB.out | apply below_alloc | apply pw_below_drewN | apply below_drew1 | refine below_set ?_ GE383.out | refine below_set ?_ GE385.out) | exact HB.out)))
             (case aF => exact (fun _ _ => trivial))
             (case aO => exact (by (with_reducible repeat (first | apply Kd.R_alloc | apply Kd.R_drewN | apply Kd.R_drew)); exact HO395.out))
             (case aS => exact (below_size (by repeat (first | (with_reducible first | exact HB.out | apply below_alloc | apply pw_below_drewN | apply below_drew1 | refine below_set ?_ GE383.out | refine below_set ?_ GE385.out) | exact HB.out))))
             (case aL => have := LMc25.out; have hlx_ := (show (l0_2.drop ((ji18) : Int).toNat).length = (l0_2.length - (ji18).toNat) from List.length_drop); omega)
             intro v398 w50 ho hb hg hat
             rw [← Ny397.out] at ho
             have n0_ := Aside0.mk (blk_grown (g := gb383) (o := .cells #[.int .i64 a0_0, .int .i64 a0_1, .slice A0_2 l0_2.length c0_2, .int .i64 a0_3, .int .i64 a0_4, .int .i64 a0_5] 27 (0, 0)) (by (with_reducible repeat (first | refine blk_drewN ?_ _ | refine blk_drew ?_ | refine blk_alloc ?_ _)); exact BK383.out) hg (Kd.R_ne HO395.out BK383.out (by decide)))
             have n1_ := Aside0.mk (blk_grown (g := gb385) (o := .cells #[.int .i64 (wrap64 (a0_0 - a3)), .int .i64 a0_1, .slice Ao45 y393.length co45, .int .i64 a0_3, .int .i64 a0_4, .int .i64 a0_5] 27 (0, 0)) (by (with_reducible repeat (first | refine blk_drewN ?_ _ | refine blk_drew ?_ | refine blk_alloc ?_ _)); exact BK385.out) hg (Kd.R_ne HO395.out BK385.out (by decide)))
             have n2_ := Aside0.mk (hb)
             have n3_ := Aside0.mk (ho)
             clear BK383
             clear BK385
             clear HB
             clear HO395
             have BK383 := n0_
             have BK385 := n1_
             have HB := n2_
             have HO399 := n3_
             clear n0_ n1_ n2_ n3_
             clear ho hb hg hat
             obtain ⟨Ao51, co51, eo51⟩ := Kd.R_slice HO399.out
             (first | subst eo51 | (injection eo51 with f1_ f2_ f3_; have f4_ := f1_.symm; have f5_ := f3_.symm; clear f1_ f2_ f3_; subst f4_; subst f5_))
             refine hK.out _ _ ⟨(blk_cell BK385.out 0).trans rfl, (blk_cell BK385.out 1).trans rfl, (blk_cell BK385.out 2).trans rfl, (blk_cell BK385.out 3).trans rfl, (blk_cell BK385.out 4).trans rfl, (blk_cell BK385.out 5).trans rfl, (blk_cell BK383.out 0).trans rfl, (blk_cell BK383.out 1).trans rfl, (blk_cell BK383.out 2).trans rfl, (blk_cell BK383.out 3).trans rfl, (blk_cell BK383.out 4).trans rfl, (blk_cell BK383.out 5).trans rfl⟩ (fun hHeld => ?_)
             clear hK K
             refine norm_ (a' := ?_) ?_ ?_
             rotate_left
             ·show Act.put _ (some 71) _ = _
              simp only [Act.put, List.setIfInBounds_toArray, List.set_cons_zero, List.set_cons_succ, i64_w, i32_w]
              rfl
             refine pure_ (i := 9) (N := some 72) (v := ?_) (a' := ?_) #[true, true, true, true, true, true, true, true, true, true, false, false] rfl rfl (any_of HT_.out (by kernel_rfl)) (fun _ _ _ h => h) (Or.inl ⟨by rfl, ?_⟩) ?_ ?_
             rotate_left
             ·intro w'
              go_simp
              with_reducible rfl
             rotate_left
             ·simp only [Act.put, List.setIfInBounds_toArray, List.set_cons_zero, List.set_cons_succ, i64_w, i32_w]
              rfl
             refine pure_ (i := 10) (N := some 73) (v := ?_) (a' := ?_) #[true, true, true, true, true, true, true, true, true, true, true, false] rfl rfl (any_of HT_.out (by kernel_rfl)) (fun _ _ _ h => h) (Or.inl ⟨by rfl, ?_⟩) ?_ ?_
             rotate_left
             ·intro w'
              go_simp
              with_reducible rfl
             rotate_left
             ·simp only [Act.put, List.setIfInBounds_toArray, List.set_cons_zero, List.set_cons_succ, i64_w, i32_w]
              rfl
             refine last_ (i := 11) (N := none) #[true, true, true, true, true, true, true, true, true, true, true, true] rfl rfl (one_of HT_.out (by kernel_rfl)) (by decide) (fun K hK => ?_)
             have hs52 : w50.cell? ⟨gb385, 2, none⟩ = some (.slice Ao45 y393.length co45) := (blk_cell BK385.out 2).trans rfl
             have hfs52 := blk_frozen BK385.out 2
             have hns52_0 := NB383_385.out
             have hms52_0 := NB385_383.out
             refine skip_ (w1 := ?_) (by rfl) rfl ?_ ?_
             rotate_left
             ·go_simp
              rfl
             refine hK.out _ _ ?_
             clear hK K
             refine done_ (done_of HT_.out (by kernel_rfl)) ?_
             have hcz53_0 : w50.cell? ⟨gb383, 0, none⟩ = some (.int .i64 a0_0) := (blk_cell BK383.out 0).trans rfl
             have hcz53_1 : w50.cell? ⟨gb383, 1, none⟩ = some (.int .i64 a0_1) := (blk_cell BK383.out 1).trans rfl
             have hcz53_2 : w50.cell? ⟨gb383, 2, none⟩ = some (.slice A0_2 l0_2.length c0_2) := (blk_cell BK383.out 2).trans rfl
             have hcz53_3 : w50.cell? ⟨gb383, 3, none⟩ = some (.int .i64 a0_3) := (blk_cell BK383.out 3).trans rfl
             have hcz53_4 : w50.cell? ⟨gb383, 4, none⟩ = some (.int .i64 a0_4) := (blk_cell BK383.out 4).trans rfl
             have hcz53_5 : w50.cell? ⟨gb383, 5, none⟩ = some (.int .i64 a0_5) := (blk_cell BK383.out 5).trans rfl
             have hfz53_0 := blk_frozen BK383.out 0
             have hfz53_1 := blk_frozen BK383.out 1
             have hfz53_2 := blk_frozen BK383.out 2
             have hfz53_3 := blk_frozen BK383.out 3
             have hfz53_4 := blk_frozen BK383.out 4
             have hfz53_5 := blk_frozen BK383.out 5
             have hcz54_0 : w50.cell? ⟨gb385, 0, none⟩ = some (.int .i64 (wrap64 (a0_0 - a3))) := (blk_cell BK385.out 0).trans rfl
             have hcz54_1 : w50.cell? ⟨gb385, 1, none⟩ = some (.int .i64 a0_1) := (blk_cell BK385.out 1).trans rfl
             have hcz54_2 : w50.cell? ⟨gb385, 2, none⟩ = some (.slice Ao45 y393.length co45) := (blk_cell BK385.out 2).trans rfl
             have hcz54_3 : w50.cell? ⟨gb385, 3, none⟩ = some (.int .i64 a0_3) := (blk_cell BK385.out 3).trans rfl
             have hcz54_4 : w50.cell? ⟨gb385, 4, none⟩ = some (.int .i64 a0_4) := (blk_cell BK385.out 4).trans rfl
             have hcz54_5 : w50.cell? ⟨gb385, 5, none⟩ = some (.int .i64 a0_5) := (blk_cell BK385.out 5).trans rfl
             have hfz54_0 := blk_frozen BK385.out 0
             have hfz54_1 := blk_frozen BK385.out 1
             have hfz54_2 := blk_frozen BK385.out 2
             have hfz54_3 := blk_frozen BK385.out 3
             have hfz54_4 := blk_frozen BK385.out 4
             have hfz54_5 := blk_frozen BK385.out 5
             try go_wp2_with (first | (go_at_call 10; (with_reducible refine (route_Compare.calls a0_0 a0_1 _ _ l0_2 a0_3 a0_4 a0_5 (wrap64 (a0_0 - a3)) a0_1 _ _ y397 a0_3 a0_4 a0_5 t400 _ ?side1 ?side2 ?side3 ?side4 A27.out).mono ?_); (case side1 => exact Kd.C_below HR0_2.out (by repeat (first | (with_reducible first | exact HB.out | apply below_alloc | apply pw_below_drewN | apply below_drew1 | refine below_set ?_ GE383.out | refine below_set ?_ GE385.out) | exact HB.out))); (case side2 => exact HC0_2.out); (case side3 => refine (Kd.R_reads' (e := 3) (base := w.heap.size) (ok := fun k_ => True) (n := y397.length) (c := co51) ?_).2.2; exact (by (with_reducible repeat (first | apply Kd.R_alloc | apply Kd.R_drewN | apply Kd.R_drew)); exact (Kd.R_mono (Kd.R_far (p := ⟨gb385, 2, none⟩) (Kd.R_types HO399.out BK385.out (by decide)) (fun _ hk => hk.2) (.slice Ao51 y397.length co51)) (fun _ h_ => h_.1)))); (case side4 => exact (Kd.R_reads' HO399.out).2.1); rintro e w55 ⟨rfl, hb⟩; have n0_ := Aside0.mk (Kd.R_below (by (with_reducible repeat (first | apply Kd.R_alloc | apply Kd.R_drewN | apply Kd.R_drew)); exact (Kd.R_mono (Kd.R_far (p := ⟨gb385, 2, none⟩) (Kd.R_types HO399.out BK385.out (by decide)) (fun _ hk => hk.2) (.slice Ao51 y397.length co51)) (fun _ h_ => h_.1))) hb); have n1_ := Aside0.mk (blk_below (g := gb383) (o := .cells #[.int .i64 a0_0, .int .i64 a0_1, .slice A0_2 l0_2.length c0_2, .int .i64 a0_3, .int .i64 a0_4, .int .i64 a0_5] 27 (0, 0)) (by (with_reducible repeat (first | refine blk_drewN ?_ _ | refine blk_drew ?_ | refine blk_alloc ?_ _)); refine blk_far ?_ NB383_385.out _; (with_reducible repeat (first | refine blk_drewN ?_ _ | refine blk_drew ?_ | refine blk_alloc ?_ _)); exact BK383.out) hb); have n2_ := Aside0.mk (blk_below (g := gb385) (o := .cells #[.int .i64 (wrap64 (a0_0 - a3)), .int .i64 a0_1, .slice Ao51 y397.length co51, .int .i64 a0_3, .int .i64 a0_4, .int .i64 a0_5] 27 (0, 0)) (by (with_reducible repeat (first | refine blk_drewN ?_ _ | refine blk_drew ?_ | refine blk_alloc ?_ _)); refine blk_put (cs := #[.int .i64 (wrap64 (a0_0 - a3)), .int .i64 a0_1, .slice Ao45 y393.length co45, .int .i64 a0_3, .int .i64 a0_4, .int .i64 a0_5]) ?_ 2 _ rfl; (with_reducible repeat (first | refine blk_drewN ?_ _ | refine blk_drew ?_ | refine blk_alloc ?_ _)); exact BK385.out) hb); have n3_ := Aside0.mk (below_step (by repeat (first | (with_reducible first | exact HB.out | apply below_alloc | apply pw_below_drewN | apply below_drew1 | refine below_set ?_ GE383.out | refine below_set ?_ GE385.out) | exact HB.out)) hb); clear HO399; clear BK383; clear BK385; clear HB; have HO399 := n0_; have BK383 := n1_; have BK385 := n2_; have HB := n3_; clear n0_ n1_ n2_ n3_; (try clear hb); (try clear hb2); (try clear hk); (try clear hi); have hcz56_0 : w55.cell? ⟨gb385, 0, none⟩ = some (.int .i64 (wrap64 (a0_0 - a3))) := (blk_cell BK385.out 0).trans rfl; have hcz56_1 : w55.cell? ⟨gb385, 1, none⟩ = some (.int .i64 a0_1) := (blk_cell BK385.out 1).trans rfl; have hcz56_2 : w55.cell? ⟨gb385, 2, none⟩ = some (.slice Ao51 y397.length co51) := (blk_cell BK385.out 2).trans rfl; have hcz56_3 : w55.cell? ⟨gb385, 3, none⟩ = some (.int .i64 a0_3) := (blk_cell BK385.out 3).trans rfl; have hcz56_4 : w55.cell? ⟨gb385, 4, none⟩ = some (.int .i64 a0_4) := (blk_cell BK385.out 4).trans rfl; have hcz56_5 : w55.cell? ⟨gb385, 5, none⟩ = some (.int .i64 a0_5) := (blk_cell BK385.out 5).trans rfl; have hfz56_0 := blk_frozen BK385.out 0; have hfz56_1 := blk_frozen BK385.out 1; have hfz56_2 := blk_frozen BK385.out 2; have hfz56_3 := blk_frozen BK385.out 3; have hfz56_4 := blk_frozen BK385.out 4; have hfz56_5 := blk_frozen BK385.out 5; have hcz57_0 : w55.cell? ⟨gb383, 0, none⟩ = some (.int .i64 a0_0) := (blk_cell BK383.out 0).trans rfl; have hcz57_1 : w55.cell? ⟨gb383, 1, none⟩ = some (.int .i64 a0_1) := (blk_cell BK383.out 1).trans rfl; have hcz57_2 : w55.cell? ⟨gb383, 2, none⟩ = some (.slice A0_2 l0_2.length c0_2) := (blk_cell BK383.out 2).trans rfl; have hcz57_3 : w55.cell? ⟨gb383, 3, none⟩ = some (.int .i64 a0_3) := (blk_cell BK383.out 3).trans rfl; have hcz57_4 : w55.cell? ⟨gb383, 4, none⟩ = some (.int .i64 a0_4) := (blk_cell BK383.out 4).trans rfl; have hcz57_5 : w55.cell? ⟨gb383, 5, none⟩ = some (.int .i64 a0_5) := (blk_cell BK383.out 5).trans rfl; have hfz57_0 := blk_frozen BK383.out 0; have hfz57_1 := blk_frozen BK383.out 1; have hfz57_2 := blk_frozen BK383.out 2; have hfz57_3 := blk_frozen BK383.out 3; have hfz57_4 := blk_frozen BK383.out 4; have hfz57_5 := blk_frozen BK383.out 5) | (go_at_call 10; (with_reducible refine (route_Compare.calls (wrap64 (a0_0 - a3)) a0_1 _ _ y397 a0_3 a0_4 a0_5 a0_0 a0_1 _ _ l0_2 a0_3 a0_4 a0_5 t401 _ ?side1 ?side2 ?side3 ?side4 A29.out).mono ?_); (case side1 => repeat (first | exact (Kd.R_reads' HO399.out).2.2 | (with_reducible refine Kd.C_alloc ?_ _) | (with_reducible refine Kd.C_drewN ?_ _) | (with_reducible refine Kd.C_drew ?_))); (case side2 => exact (Kd.R_reads' HO399.out).2.1); (case side3 => repeat (first | exact (Kd.C_below HR0_2.out HB.out) | (with_reducible refine Kd.C_alloc ?_ _) | (with_reducible refine Kd.C_drewN ?_ _) | (with_reducible refine Kd.C_drew ?_))); (case side4 => exact HC0_2.out); rintro e w58 ⟨rfl, hb⟩; have n0_ := Aside0.mk (Kd.R_below (by (with_reducible repeat (first | apply Kd.R_alloc | apply Kd.R_drewN | apply Kd.R_drew)); exact HO399.out) hb); have n1_ := Aside0.mk (blk_below (g := gb383) (o := .cells #[.int .i64 a0_0, .int .i64 a0_1, .slice A0_2 l0_2.length c0_2, .int .i64 a0_3, .int .i64 a0_4, .int .i64 a0_5] 27 (0, 0)) (by (with_reducible repeat (first | refine blk_drewN ?_ _ | refine blk_drew ?_ | refine blk_alloc ?_ _)); exact BK383.out) hb); have n2_ := Aside0.mk (blk_below (g := gb385) (o := .cells #[.int .i64 (wrap64 (a0_0 - a3)), .int .i64 a0_1, .slice Ao51 y397.length co51, .int .i64 a0_3, .int .i64 a0_4, .int .i64 a0_5] 27 (0, 0)) (by (with_reducible repeat (first | refine blk_drewN ?_ _ | refine blk_drew ?_ | refine blk_alloc ?_ _)); exact BK385.out) hb); have n3_ := Aside0.mk (below_step (by repeat (first | (with_reducible first | exact HB.out | apply below_alloc | apply pw_below_drewN | apply below_drew1 | refine below_set ?_ GE383.out | refine below_set ?_ GE385.out) | exact HB.out)) hb); clear HO399; clear BK383; clear BK385; clear HB; have HO399 := n0_; have BK383 := n1_; have BK385 := n2_; have HB := n3_; clear n0_ n1_ n2_ n3_; (try clear hb); (try clear hb2); (try clear hk); (try clear hi); have hcz59_0 : w58.cell? ⟨gb383, 0, none⟩ = some (.int .i64 a0_0) := (blk_cell BK383.out 0).trans rfl; have hcz59_1 : w58.cell? ⟨gb383, 1, none⟩ = some (.int .i64 a0_1) := (blk_cell BK383.out 1).trans rfl; have hcz59_2 : w58.cell? ⟨gb383, 2, none⟩ = some (.slice A0_2 l0_2.length c0_2) := (blk_cell BK383.out 2).trans rfl; have hcz59_3 : w58.cell? ⟨gb383, 3, none⟩ = some (.int .i64 a0_3) := (blk_cell BK383.out 3).trans rfl; have hcz59_4 : w58.cell? ⟨gb383, 4, none⟩ = some (.int .i64 a0_4) := (blk_cell BK383.out 4).trans rfl; have hcz59_5 : w58.cell? ⟨gb383, 5, none⟩ = some (.int .i64 a0_5) := (blk_cell BK383.out 5).trans rfl; have hfz59_0 := blk_frozen BK383.out 0; have hfz59_1 := blk_frozen BK383.out 1; have hfz59_2 := blk_frozen BK383.out 2; have hfz59_3 := blk_frozen BK383.out 3; have hfz59_4 := blk_frozen BK383.out 4; have hfz59_5 := blk_frozen BK383.out 5; have hcz60_0 : w58.cell? ⟨gb385, 0, none⟩ = some (.int .i64 (wrap64 (a0_0 - a3))) := (blk_cell BK385.out 0).trans rfl; have hcz60_1 : w58.cell? ⟨gb385, 1, none⟩ = some (.int .i64 a0_1) := (blk_cell BK385.out 1).trans rfl; have hcz60_2 : w58.cell? ⟨gb385, 2, none⟩ = some (.slice Ao51 y397.length co51) := (blk_cell BK385.out 2).trans rfl; have hcz60_3 : w58.cell? ⟨gb385, 3, none⟩ = some (.int .i64 a0_3) := (blk_cell BK385.out 3).trans rfl; have hcz60_4 : w58.cell? ⟨gb385, 4, none⟩ = some (.int .i64 a0_4) := (blk_cell BK385.out 4).trans rfl; have hcz60_5 : w58.cell? ⟨gb385, 5, none⟩ = some (.int .i64 a0_5) := (blk_cell BK385.out 5).trans rfl; have hfz60_0 := blk_frozen BK385.out 0; have hfz60_1 := blk_frozen BK385.out 1; have hfz60_2 := blk_frozen BK385.out 2; have hfz60_3 := blk_frozen BK385.out 3; have hfz60_4 := blk_frozen BK385.out 4; have hfz60_5 := blk_frozen BK385.out 5) | (go_at_call 12; (with_reducible refine (route_Same.calls a0_0 a0_1 _ _ l0_2 a0_3 a0_4 a0_5 (wrap64 (a0_0 - a3)) a0_1 _ _ y397 a0_3 a0_4 a0_5 t402 _ ?side1 ?side2 ?side3 ?side4 A31.out).mono ?_); (case side1 => repeat (first | exact (Kd.C_below HR0_2.out HB.out) | (with_reducible refine Kd.C_alloc ?_ _) | (with_reducible refine Kd.C_drewN ?_ _) | (with_reducible refine Kd.C_drew ?_))); (case side2 => exact HC0_2.out); (case side3 => repeat (first | exact (Kd.R_reads' HO399.out).2.2 | (with_reducible refine Kd.C_alloc ?_ _) | (with_reducible refine Kd.C_drewN ?_ _) | (with_reducible refine Kd.C_drew ?_))); (case side4 => exact (Kd.R_reads' HO399.out).2.1); rintro e w61 ⟨rfl, hb⟩; have n0_ := Aside0.mk (Kd.R_below (by (with_reducible repeat (first | apply Kd.R_alloc | apply Kd.R_drewN | apply Kd.R_drew)); exact HO399.out) hb); have n1_ := Aside0.mk (blk_below (g := gb383) (o := .cells #[.int .i64 a0_0, .int .i64 a0_1, .slice A0_2 l0_2.length c0_2, .int .i64 a0_3, .int .i64 a0_4, .int .i64 a0_5] 27 (0, 0)) (by (with_reducible repeat (first | refine blk_drewN ?_ _ | refine blk_drew ?_ | refine blk_alloc ?_ _)); exact BK383.out) hb); have n2_ := Aside0.mk (blk_below (g := gb385) (o := .cells #[.int .i64 (wrap64 (a0_0 - a3)), .int .i64 a0_1, .slice Ao51 y397.length co51, .int .i64 a0_3, .int .i64 a0_4, .int .i64 a0_5] 27 (0, 0)) (by (with_reducible repeat (first | refine blk_drewN ?_ _ | refine blk_drew ?_ | refine blk_alloc ?_ _)); exact BK385.out) hb); have n3_ := Aside0.mk (below_step (by repeat (first | (with_reducible first | exact HB.out | apply below_alloc | apply pw_below_drewN | apply below_drew1 | refine below_set ?_ GE383.out | refine below_set ?_ GE385.out) | exact HB.out)) hb); clear HO399; clear BK383; clear BK385; clear HB; have HO399 := n0_; have BK383 := n1_; have BK385 := n2_; have HB := n3_; clear n0_ n1_ n2_ n3_; (try clear hb); (try clear hb2); (try clear hk); (try clear hi)))
             go_ret
             exact ⟨by first | rfl | (simp [errW_none, errW_some] <;> rfl) | (simp only [← hji18]; first | rfl | (simp [errW_none, errW_some] <;> rfl)) | (simp [*, errW_none, errW_some] <;> rfl), by repeat (first | (with_reducible first | exact HB.out | apply below_alloc | apply pw_below_drewN | apply below_drew1 | refine below_set ?_ GE383.out | refine below_set ?_ GE385.out) | exact HB.out)⟩
            ·rw [if_neg c30] at H
             exact absurd H (by simp)
           ·rw [if_neg c28] at H
            exact absurd H (by simp)
          ·replace c26 := Bool.eq_false_iff.mpr c26
           subst c26
           have H1 : (none) = some r := by rw [if_neg (show ¬ (false = true) by decide)] at H; exact H
           clear H
           have H := H1
           clear H1
           exact absurd H (by simp)
         ·rw [if_neg c25] at H
          exact absurd H (by simp)
        ·rw [if_neg c22] at H
         exact absurd H (by simp)
       ·rw [if_neg c21] at H
        exact absurd H (by simp)
      ·rw [if_neg c20] at H
       exact absurd H (by simp)
     ·rw [if_neg c19] at H
      exact absurd H (by simp)

end Go.Proofs.Ytmbacpnmniemnaa.PAll
