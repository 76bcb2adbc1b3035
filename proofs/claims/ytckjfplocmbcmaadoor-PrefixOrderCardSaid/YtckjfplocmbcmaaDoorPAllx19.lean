-- Written by a program of this session's (wip/tools), out of the translation. Lean checks it.
import Derived.Test.YtckjfplocmbcmaaDoorPAllx0
import Derived.Test.YtckjfplocmbcmaaDoorPAllx1
import Derived.Test.YtckjfplocmbcmaaDoorPAllx2
import Derived.Test.YtckjfplocmbcmaaDoorPAllx3
import Derived.Test.YtckjfplocmbcmaaDoorPAllx5
import Derived.Test.YtckjfplocmbcmaaDoorPAllx6
import Derived.Test.YtckjfplocmbcmaaDoorPAllx8
namespace Go.Proofs.YtckjfplocmbcmaaDoor.PAll
open Go.RowKit Go.Proofs.YtckjfplocmbcmaaDoorW.PrintWords Go.Proofs.YtckjfplocmbcmaaDoorW.PrintLast Go.Proofs.YtckjfplocmbcmaaDoorW.PrintMore
attribute [local go_sem] max2_int min2_int max_two min_two max_three min_three max_four min_four   -- for this text's walks alone
set_option linter.unusedVariables false
set_option linter.unusedSimpArgs false

attribute [local go_sem high] eqA23
/-! ### ridgewaylaw02_PrefixOrder: function 8 -/
def ridgewaylaw02_PrefixOrder.j0 : Nat → Bool → Int → Int → Bool → Int → Int → Int → Int → Option (Bool)
 | 0, _, _, _, _, _, _, _, _ => none
 | k + 1, x7, x8, x9, x47, x451000, x451001, x453000, x453001 => if x47 = true then (none) else (if x7 = true then (if x8 > 0 then (if x8 ≥ 0 then (some true) else (if x9 > 0 then (some true) else ((prefix_Compare.f k x451000 x451001 x453000 x453001).bind fun t458 => (some (decide (t458 < 0)))))) else (if x9 > 0 then (if x8 ≥ 0 then (some true) else (some true)) else ((prefix_Compare.f k x451000 x451001 x453000 x453001).bind fun t459 => (if t459 ≤ 0 then (if x8 ≥ 0 then (some true) else ((prefix_Compare.f k x451000 x451001 x453000 x453001).bind fun t460 => (some (decide (t460 < 0))))) else (none))))) else (none))
def ridgewaylaw02_PrefixOrder.f (k : Nat) (a0_0 : Int) (a0_1 : Int) (a1_0 : Int) (a1_1 : Int) (a2_0 : Int) (a2_1 : Int) : Option (Bool) := (ridgewaylaw02_awake.f k).bind fun t453 => ((prefix_Compare.f k a0_0 a0_1 a1_0 a1_1).bind fun t454 => ((prefix_Compare.f k a1_0 a1_1 a2_0 a2_1).bind fun t455 => (if t454 < (-1) then (ridgewaylaw02_PrefixOrder.j0 k t453 t454 t455 true a0_0 a0_1 a2_0 a2_1) else (if t454 > 1 then (ridgewaylaw02_PrefixOrder.j0 k t453 t454 t455 true a0_0 a0_1 a2_0 a2_1) else ((prefix_Compare.f k a1_0 a1_1 a0_0 a0_1).bind fun t456 => (if t456 = (wrap64 (-t454)) then (if ((t454 == 0) != (a0_0 == a1_0 && (a0_1 == a1_1))) = true then (ridgewaylaw02_PrefixOrder.j0 k t453 t454 t455 true a0_0 a0_1 a2_0 a2_1) else ((prefix_Has.f a0_0 a0_1 a1_0 a1_1).bind fun t457 => (if t457 = true then (ridgewaylaw02_PrefixOrder.j0 k t453 t454 t455 (decide (t454 > 0)) a0_0 a0_1 a2_0 a2_1) else (ridgewaylaw02_PrefixOrder.j0 k t453 t454 t455 false a0_0 a0_1 a2_0 a2_1)))) else (ridgewaylaw02_PrefixOrder.j0 k t453 t454 t455 true a0_0 a0_1 a2_0 a2_1)))))))
theorem ridgewaylaw02_PrefixOrder.mono_l : ∀ k, (∀ y0 y1 y2 y3 y4 y5 y6 y7, LeO (ridgewaylaw02_PrefixOrder.j0 k y0 y1 y2 y3 y4 y5 y6 y7) (ridgewaylaw02_PrefixOrder.j0 (k + 1) y0 y1 y2 y3 y4 y5 y6 y7))
 | 0 => fun _ _ _ _ _ _ _ _ r h => by simp [ridgewaylaw02_PrefixOrder.j0] at h
 | k + 1 => by
  have ih0 := ridgewaylaw02_PrefixOrder.mono_l k
  ·intro y0 y1 y2 y3 y4 y5 y6 y7
   unfold ridgewaylaw02_PrefixOrder.j0
   repeat' first
   | (with_reducible exact ih0 _ _ _ _ _ _ _ _)
   | (with_reducible exact prefix_Compare.mono _ _ _ _ _)
   | (with_reducible exact ridgewaylaw02_awake.mono _)
   | (with_reducible exact LeO.refl _)
   | (with_reducible exact LeO.none _)
   | (with_reducible refine LeO.ite ?_ ?_)
   | (with_reducible refine LeO.bind ?_ (fun _ => ?_))
   | exact ih0 _ _ _ _ _ _ _ _
   | exact prefix_Compare.mono _ _ _ _ _
   | exact ridgewaylaw02_awake.mono _
   | exact LeO.none _
   | refine LeO.ite ?_ ?_
   | refine LeO.bind ?_ (fun _ => ?_)
theorem ridgewaylaw02_PrefixOrder.mono : ∀ a0 a1 a2 a3 a4 a5 k, LeO (ridgewaylaw02_PrefixOrder.f k a0 a1 a2 a3 a4 a5) (ridgewaylaw02_PrefixOrder.f (k + 1) a0 a1 a2 a3 a4 a5) := by
 intro a0 a1 a2 a3 a4 a5 k
 have ih0 := ridgewaylaw02_PrefixOrder.mono_l k
 unfold ridgewaylaw02_PrefixOrder.f
 repeat' first
   | (with_reducible exact ih0 _ _ _ _ _ _ _ _)
   | (with_reducible exact prefix_Compare.mono _ _ _ _ _)
   | (with_reducible exact ridgewaylaw02_awake.mono _)
   | (with_reducible exact LeO.refl _)
   | (with_reducible exact LeO.none _)
   | (with_reducible refine LeO.ite ?_ ?_)
   | (with_reducible refine LeO.bind ?_ (fun _ => ?_))
   | exact ih0 _ _ _ _ _ _ _ _
   | exact prefix_Compare.mono _ _ _ _ _
   | exact ridgewaylaw02_awake.mono _
   | exact LeO.none _
   | refine LeO.ite ?_ ?_
   | refine LeO.bind ?_ (fun _ => ?_)
set_option maxHeartbeats 8000000 in
set_option maxRecDepth 100000 in
theorem ridgewaylaw02_PrefixOrder.calls (k : Nat) (a0_0 : Int) (a0_1 : Int) (a1_0 : Int) (a1_1 : Int) (a2_0 : Int) (a2_1 : Int) (r : Bool) (w : World) (hT : Tabs w) (h : ridgewaylaw02_PrefixOrder.f k a0_0 a0_1 a1_0 a1_1 a2_0 a2_1 = some r) :
  Calls Tryd.prog 8 #[.agg #[.int .i64 a0_0, .int .i64 a0_1], .agg #[.int .i64 a1_0, .int .i64 a1_1], .agg #[.int .i64 a2_0, .int .i64 a2_1]] w fun e w' => e = .returned (.bool r) ∧ Below w.heap.size w w' := by
 have hu23 := Tryd.underlying23
 have HT := Aside0.mk hT
 clear hT
 have HB := Aside0.mk (Below.refl w.heap.size w)
 have H : ((ridgewaylaw02_awake.f k).bind fun t453 => ((prefix_Compare.f k a0_0 a0_1 a1_0 a1_1).bind fun t454 => ((prefix_Compare.f k a1_0 a1_1 a2_0 a2_1).bind fun t455 => (if t454 < (-1) then (ridgewaylaw02_PrefixOrder.j0 k t453 t454 t455 true a0_0 a0_1 a2_0 a2_1) else (if t454 > 1 then (ridgewaylaw02_PrefixOrder.j0 k t453 t454 t455 true a0_0 a0_1 a2_0 a2_1) else ((prefix_Compare.f k a1_0 a1_1 a0_0 a0_1).bind fun t456 => (if t456 = (wrap64 (-t454)) then (if ((t454 == 0) != (a0_0 == a1_0 && (a0_1 == a1_1))) = true then (ridgewaylaw02_PrefixOrder.j0 k t453 t454 t455 true a0_0 a0_1 a2_0 a2_1) else ((prefix_Has.f a0_0 a0_1 a1_0 a1_1).bind fun t457 => (if t457 = true then (ridgewaylaw02_PrefixOrder.j0 k t453 t454 t455 (decide (t454 > 0)) a0_0 a0_1 a2_0 a2_1) else (ridgewaylaw02_PrefixOrder.j0 k t453 t454 t455 false a0_0 a0_1 a2_0 a2_1)))) else (ridgewaylaw02_PrefixOrder.j0 k t453 t454 t455 true a0_0 a0_1 a2_0 a2_1)))))))) = some r := h
 clear h
 replace H := Option.bind_eq_some_iff.mp H
 obtain ⟨t453, A40, H⟩ := H
 replace H : ((prefix_Compare.f k a0_0 a0_1 a1_0 a1_1).bind fun t454 => ((prefix_Compare.f k a1_0 a1_1 a2_0 a2_1).bind fun t455 => (if t454 < (-1) then (ridgewaylaw02_PrefixOrder.j0 k t453 t454 t455 true a0_0 a0_1 a2_0 a2_1) else (if t454 > 1 then (ridgewaylaw02_PrefixOrder.j0 k t453 t454 t455 true a0_0 a0_1 a2_0 a2_1) else ((prefix_Compare.f k a1_0 a1_1 a0_0 a0_1).bind fun t456 => (if t456 = (wrap64 (-t454)) then (if ((t454 == 0) != (a0_0 == a1_0 && (a0_1 == a1_1))) = true then (ridgewaylaw02_PrefixOrder.j0 k t453 t454 t455 true a0_0 a0_1 a2_0 a2_1) else ((prefix_Has.f a0_0 a0_1 a1_0 a1_1).bind fun t457 => (if t457 = true then (ridgewaylaw02_PrefixOrder.j0 k t453 t454 t455 (decide (t454 > 0)) a0_0 a0_1 a2_0 a2_1) else (ridgewaylaw02_PrefixOrder.j0 k t453 t454 t455 false a0_0 a0_1 a2_0 a2_1)))) else (ridgewaylaw02_PrefixOrder.j0 k t453 t454 t455 true a0_0 a0_1 a2_0 a2_1))))))) = some r := H
 have A4 := Aside0.mk A40
 clear A40
 replace H := Option.bind_eq_some_iff.mp H
 obtain ⟨t454, A50, H⟩ := H
 replace H : ((prefix_Compare.f k a1_0 a1_1 a2_0 a2_1).bind fun t455 => (if t454 < (-1) then (ridgewaylaw02_PrefixOrder.j0 k t453 t454 t455 true a0_0 a0_1 a2_0 a2_1) else (if t454 > 1 then (ridgewaylaw02_PrefixOrder.j0 k t453 t454 t455 true a0_0 a0_1 a2_0 a2_1) else ((prefix_Compare.f k a1_0 a1_1 a0_0 a0_1).bind fun t456 => (if t456 = (wrap64 (-t454)) then (if ((t454 == 0) != (a0_0 == a1_0 && (a0_1 == a1_1))) = true then (ridgewaylaw02_PrefixOrder.j0 k t453 t454 t455 true a0_0 a0_1 a2_0 a2_1) else ((prefix_Has.f a0_0 a0_1 a1_0 a1_1).bind fun t457 => (if t457 = true then (ridgewaylaw02_PrefixOrder.j0 k t453 t454 t455 (decide (t454 > 0)) a0_0 a0_1 a2_0 a2_1) else (ridgewaylaw02_PrefixOrder.j0 k t453 t454 t455 false a0_0 a0_1 a2_0 a2_1)))) else (ridgewaylaw02_PrefixOrder.j0 k t453 t454 t455 true a0_0 a0_1 a2_0 a2_1)))))) = some r := H
 have A5 := Aside0.mk A50
 clear A50
 replace H := Option.bind_eq_some_iff.mp H
 obtain ⟨t455, A60, H⟩ := H
 replace H : (if t454 < (-1) then (ridgewaylaw02_PrefixOrder.j0 k t453 t454 t455 true a0_0 a0_1 a2_0 a2_1) else (if t454 > 1 then (ridgewaylaw02_PrefixOrder.j0 k t453 t454 t455 true a0_0 a0_1 a2_0 a2_1) else ((prefix_Compare.f k a1_0 a1_1 a0_0 a0_1).bind fun t456 => (if t456 = (wrap64 (-t454)) then (if ((t454 == 0) != (a0_0 == a1_0 && (a0_1 == a1_1))) = true then (ridgewaylaw02_PrefixOrder.j0 k t453 t454 t455 true a0_0 a0_1 a2_0 a2_1) else ((prefix_Has.f a0_0 a0_1 a1_0 a1_1).bind fun t457 => (if t457 = true then (ridgewaylaw02_PrefixOrder.j0 k t453 t454 t455 (decide (t454 > 0)) a0_0 a0_1 a2_0 a2_1) else (ridgewaylaw02_PrefixOrder.j0 k t453 t454 t455 false a0_0 a0_1 a2_0 a2_1)))) else (ridgewaylaw02_PrefixOrder.j0 k t453 t454 t455 true a0_0 a0_1 a2_0 a2_1))))) = some r := H
 have A6 := Aside0.mk A60
 clear A60
 have HC7 := Aside0.mk H
 clear H
 go_enter Tryd.func8, Tryd.ntmps8
 go_upto_region 4 with (first | ((with_reducible refine gate_dst (N := 3) rfl ?_); refine box_event ?hg (N := 3) ?hd (cs := #[.int .i64 a0_0, .int .i64 a0_1]) (t := 23) ?hr ?_; (case hd => rfl); (case hg => rfl); (case hr => first | (go_simp; done) | (go_simp; rfl)); intro gb450 hg w8 hbox hb; have n0_ := Aside0.mk (below_step (by repeat (first | (with_reducible first | exact HB.out | apply below_alloc | apply pw_below_drewN | apply below_drew1) | exact HB.out)) hb); have n1_ := Aside0.mk (hbox); have n2_ := Aside0.mk ((by rw [hg]; exact (below_size (by repeat (first | (with_reducible first | exact HB.out | apply below_alloc | apply pw_below_drewN | apply below_drew1) | exact HB.out))) : w.heap.size ≤ gb450)); have n3_ := Aside0.mk ((by rw [hg]; exact (below_size (by repeat (first | (with_reducible first | exact HB.out | apply below_alloc | apply pw_below_drewN | apply below_drew1) | exact HB.out))) : w.heap.size ≤ gb450)); clear HB; have HB := n0_; have BK450 := n1_; have GW450 := n2_; have GE450 := n3_; clear n0_ n1_ n2_ n3_; clear hb hbox hg) | ((with_reducible refine gate_dst (N := 4) rfl ?_); refine box_event ?hg (N := 4) ?hd (cs := #[.int .i64 a1_0, .int .i64 a1_1]) (t := 23) ?hr ?_; (case hd => rfl); (case hg => rfl); (case hr => first | (go_simp; done) | (go_simp; rfl)); intro gb451 hg w9 hbox hb; have n0_ := Aside0.mk (blk_below (g := gb450) (o := .cells #[.int .i64 a0_0, .int .i64 a0_1] 23 (0, 0)) (by (with_reducible repeat (first | refine blk_drewN ?_ _ | refine blk_drew ?_ | refine blk_alloc ?_ _)); exact BK450.out) hb); have n1_ := Aside0.mk (below_step (by repeat (first | (with_reducible first | exact HB.out | apply below_alloc | apply pw_below_drewN | apply below_drew1 | refine below_set ?_ GE450.out) | exact HB.out)) hb); have n2_ := Aside0.mk (hbox); have n3_ := Aside0.mk ((by rw [hg]; exact (below_size (by repeat (first | (with_reducible first | exact HB.out | apply below_alloc | apply pw_below_drewN | apply below_drew1 | refine below_set ?_ GE450.out) | exact HB.out))) : w.heap.size ≤ gb451)); have n4_ := Aside0.mk ((by rw [hg]; exact (below_size (by repeat (first | (with_reducible first | exact HB.out | apply below_alloc | apply pw_below_drewN | apply below_drew1 | refine below_set ?_ GE450.out) | exact HB.out))) : w.heap.size ≤ gb451)); have n5_ := Aside0.mk ((by rw [hg]; exact Nat.ne_of_lt (blk_lt (g := gb450) (o := .cells #[.int .i64 a0_0, .int .i64 a0_1] 23 (0, 0)) (by (with_reducible repeat (first | refine blk_drewN ?_ _ | refine blk_drew ?_ | refine blk_alloc ?_ _)); exact BK450.out)) : gb450 ≠ gb451)); have n6_ := Aside0.mk ((by rw [hg]; exact Nat.ne_of_gt (blk_lt (g := gb450) (o := .cells #[.int .i64 a0_0, .int .i64 a0_1] 23 (0, 0)) (by (with_reducible repeat (first | refine blk_drewN ?_ _ | refine blk_drew ?_ | refine blk_alloc ?_ _)); exact BK450.out)) : gb451 ≠ gb450)); clear BK450; clear HB; have BK450 := n0_; have HB := n1_; have BK451 := n2_; have GW451 := n3_; have GE451 := n4_; have NB450_451 := n5_; have NB451_450 := n6_; clear n0_ n1_ n2_ n3_ n4_ n5_ n6_; clear hb hbox hg) | ((with_reducible refine gate_dst (N := 5) rfl ?_); refine box_event ?hg (N := 5) ?hd (cs := #[.int .i64 a2_0, .int .i64 a2_1]) (t := 23) ?hr ?_; (case hd => rfl); (case hg => rfl); (case hr => first | (go_simp; done) | (go_simp; rfl)); intro gb452 hg w10 hbox hb; have n0_ := Aside0.mk (blk_below (g := gb450) (o := .cells #[.int .i64 a0_0, .int .i64 a0_1] 23 (0, 0)) (by (with_reducible repeat (first | refine blk_drewN ?_ _ | refine blk_drew ?_ | refine blk_alloc ?_ _)); exact BK450.out) hb); have n1_ := Aside0.mk (blk_below (g := gb451) (o := .cells #[.int .i64 a1_0, .int .i64 a1_1] 23 (0, 0)) (by (with_reducible repeat (first | refine blk_drewN ?_ _ | refine blk_drew ?_ | refine blk_alloc ?_ _)); exact BK451.out) hb); have n2_ := Aside0.mk (below_step (by repeat (first | (with_reducible first | exact HB.out | apply below_alloc | apply pw_below_drewN | apply below_drew1 | refine below_set ?_ GE450.out | refine below_set ?_ GE451.out) | exact HB.out)) hb); have n3_ := Aside0.mk (hbox); have n4_ := Aside0.mk ((by rw [hg]; exact (below_size (by repeat (first | (with_reducible first | exact HB.out | apply below_alloc | apply pw_below_drewN | apply below_drew1 | refine below_set ?_ GE450.out | refine below_set ?_ GE451.out) | exact HB.out))) : w.heap.size ≤ gb452)); have n5_ := Aside0.mk ((by rw [hg]; exact (below_size (by repeat (first | (with_reducible first | exact HB.out | apply below_alloc | apply pw_below_drewN | apply below_drew1 | refine below_set ?_ GE450.out | refine below_set ?_ GE451.out) | exact HB.out))) : w.heap.size ≤ gb452)); have n6_ := Aside0.mk ((by rw [hg]; exact Nat.ne_of_lt (blk_lt (g := gb450) (o := .cells #[.int .i64 a0_0, .int .i64 a0_1] 23 (0, 0)) (by (with_reducible repeat (first | refine blk_drewN ?_ _ | refine blk_drew ?_ | refine blk_alloc ?_ _)); exact BK450.out)) : gb450 ≠ gb452)); have n7_ := Aside0.mk ((by rw [hg]; exact Nat.ne_of_gt (blk_lt (g := gb450) (o := .cells #[.int .i64 a0_0, .int .i64 a0_1] 23 (0, 0)) (by (with_reducible repeat (first | refine blk_drewN ?_ _ | refine blk_drew ?_ | refine blk_alloc ?_ _)); exact BK450.out)) : gb452 ≠ gb450)); have n8_ := Aside0.mk ((by rw [hg]; exact Nat.ne_of_lt (blk_lt (g := gb451) (o := .cells #[.int .i64 a1_0, .int .i64 a1_1] 23 (0, 0)) (by (with_reducible repeat (first | refine blk_drewN ?_ _ | refine blk_drew ?_ | refine blk_alloc ?_ _)); exact BK451.out)) : gb451 ≠ gb452)); have n9_ := Aside0.mk ((by rw [hg]; exact Nat.ne_of_gt (blk_lt (g := gb451) (o := .cells #[.int .i64 a1_0, .int .i64 a1_1] 23 (0, 0)) (by (with_reducible repeat (first | refine blk_drewN ?_ _ | refine blk_drew ?_ | refine blk_alloc ?_ _)); exact BK451.out)) : gb452 ≠ gb451)); clear BK450; clear BK451; clear HB; have BK450 := n0_; have BK451 := n1_; have HB := n2_; have BK452 := n3_; have GW452 := n4_; have GE452 := n5_; have NB450_452 := n6_; have NB452_450 := n7_; have NB451_452 := n8_; have NB452_451 := n9_; clear n0_ n1_ n2_ n3_ n4_ n5_ n6_ n7_ n8_ n9_; clear hb hbox hg) | ((with_reducible refine gate_callee (f := 10) rfl ?_); refine goesL_ (some 10) rfl rfl Tryd.func10 (by kernel_rfl) rfl #[] rfl (by (try simp only [List.map_toArray, List.map_cons, List.map_nil]); first | done | rfl | (simp only [List.length_drop, List.length_take]; rfl)) ?_; (with_reducible refine (ridgewaylaw02_awake.calls k  t453 _ ?side1 A4.out).mono ?_); (case side1 => exact Tabs.below HT.out (by repeat (first | (with_reducible first | exact HB.out | apply below_alloc | apply pw_below_drewN | apply below_drew1 | refine below_set ?_ GE450.out | refine below_set ?_ GE451.out | refine below_set ?_ GE452.out) | exact HB.out))); rintro e w11 ⟨rfl, hb⟩; refine ⟨_, rfl, ?_⟩; have n0_ := Aside0.mk (blk_below (g := gb450) (o := .cells #[.int .i64 a0_0, .int .i64 a0_1] 23 (0, 0)) (by (with_reducible repeat (first | refine blk_drewN ?_ _ | refine blk_drew ?_ | refine blk_alloc ?_ _)); exact BK450.out) hb); have n1_ := Aside0.mk (blk_below (g := gb451) (o := .cells #[.int .i64 a1_0, .int .i64 a1_1] 23 (0, 0)) (by (with_reducible repeat (first | refine blk_drewN ?_ _ | refine blk_drew ?_ | refine blk_alloc ?_ _)); exact BK451.out) hb); have n2_ := Aside0.mk (blk_below (g := gb452) (o := .cells #[.int .i64 a2_0, .int .i64 a2_1] 23 (0, 0)) (by (with_reducible repeat (first | refine blk_drewN ?_ _ | refine blk_drew ?_ | refine blk_alloc ?_ _)); exact BK452.out) hb); have n3_ := Aside0.mk (below_step (by repeat (first | (with_reducible first | exact HB.out | apply below_alloc | apply pw_below_drewN | apply below_drew1 | refine below_set ?_ GE450.out | refine below_set ?_ GE451.out | refine below_set ?_ GE452.out) | exact HB.out)) hb); clear BK450; clear BK451; clear BK452; clear HB; have BK450 := n0_; have BK451 := n1_; have BK452 := n2_; have HB := n3_; clear n0_ n1_ n2_ n3_; (try clear hb); (try clear hb2); (try clear hk); (try clear hi); have hnb12 := NB450_451.out; have hnc12 := NB451_450.out; have hnb13 := NB450_452.out; have hnc13 := NB452_450.out; have hcz14_0 : w11.cell? ⟨gb450, 0, none⟩ = some (.int .i64 a0_0) := (blk_cell BK450.out 0).trans rfl; have hcz14_1 : w11.cell? ⟨gb450, 1, none⟩ = some (.int .i64 a0_1) := (blk_cell BK450.out 1).trans rfl; have hfz14_0 := blk_frozen BK450.out 0; have hfz14_1 := blk_frozen BK450.out 1; have hnb15 := NB451_452.out; have hnc15 := NB452_451.out; have hcz16_0 : w11.cell? ⟨gb451, 0, none⟩ = some (.int .i64 a1_0) := (blk_cell BK451.out 0).trans rfl; have hcz16_1 : w11.cell? ⟨gb451, 1, none⟩ = some (.int .i64 a1_1) := (blk_cell BK451.out 1).trans rfl; have hfz16_0 := blk_frozen BK451.out 0; have hfz16_1 := blk_frozen BK451.out 1) | ((with_reducible refine gate_callee (f := 24) rfl ?_); refine goesL_ (some 13) rfl rfl Tryd.func24 (by kernel_rfl) rfl #[.agg #[.int .i64 a0_0, .int .i64 a0_1], .agg #[.int .i64 a1_0, .int .i64 a1_1]] rfl (by (try simp only [List.map_toArray, List.map_cons, List.map_nil]); first | done | rfl | (simp only [List.length_drop, List.length_take]; rfl)) ?_; (with_reducible refine (prefix_Compare.calls k a0_0 a0_1 a1_0 a1_1 t454 _ A5.out).mono ?_); rintro e w17 ⟨rfl, hb⟩; refine ⟨_, rfl, ?_⟩; have n0_ := Aside0.mk (blk_below (g := gb450) (o := .cells #[.int .i64 a0_0, .int .i64 a0_1] 23 (0, 0)) (by (with_reducible repeat (first | refine blk_drewN ?_ _ | refine blk_drew ?_ | refine blk_alloc ?_ _)); exact BK450.out) hb); have n1_ := Aside0.mk (blk_below (g := gb451) (o := .cells #[.int .i64 a1_0, .int .i64 a1_1] 23 (0, 0)) (by (with_reducible repeat (first | refine blk_drewN ?_ _ | refine blk_drew ?_ | refine blk_alloc ?_ _)); exact BK451.out) hb); have n2_ := Aside0.mk (blk_below (g := gb452) (o := .cells #[.int .i64 a2_0, .int .i64 a2_1] 23 (0, 0)) (by (with_reducible repeat (first | refine blk_drewN ?_ _ | refine blk_drew ?_ | refine blk_alloc ?_ _)); exact BK452.out) hb); have n3_ := Aside0.mk (below_step (by repeat (first | (with_reducible first | exact HB.out | apply below_alloc | apply pw_below_drewN | apply below_drew1 | refine below_set ?_ GE450.out | refine below_set ?_ GE451.out | refine below_set ?_ GE452.out) | exact HB.out)) hb); clear BK450; clear BK451; clear BK452; clear HB; have BK450 := n0_; have BK451 := n1_; have BK452 := n2_; have HB := n3_; clear n0_ n1_ n2_ n3_; (try clear hb); (try clear hb2); (try clear hk); (try clear hi); have hcz18_0 : w17.cell? ⟨gb451, 0, none⟩ = some (.int .i64 a1_0) := (blk_cell BK451.out 0).trans rfl; have hcz18_1 : w17.cell? ⟨gb451, 1, none⟩ = some (.int .i64 a1_1) := (blk_cell BK451.out 1).trans rfl; have hfz18_0 := blk_frozen BK451.out 0; have hfz18_1 := blk_frozen BK451.out 1; have hcz19_0 : w17.cell? ⟨gb452, 0, none⟩ = some (.int .i64 a2_0) := (blk_cell BK452.out 0).trans rfl; have hcz19_1 : w17.cell? ⟨gb452, 1, none⟩ = some (.int .i64 a2_1) := (blk_cell BK452.out 1).trans rfl; have hfz19_0 := blk_frozen BK452.out 0; have hfz19_1 := blk_frozen BK452.out 1) | ((with_reducible refine gate_callee (f := 24) rfl ?_); refine goesL_ (some 16) rfl rfl Tryd.func24 (by kernel_rfl) rfl #[.agg #[.int .i64 a1_0, .int .i64 a1_1], .agg #[.int .i64 a2_0, .int .i64 a2_1]] rfl (by (try simp only [List.map_toArray, List.map_cons, List.map_nil]); first | done | rfl | (simp only [List.length_drop, List.length_take]; rfl)) ?_; (with_reducible refine (prefix_Compare.calls k a1_0 a1_1 a2_0 a2_1 t455 _ A6.out).mono ?_); rintro e w20 ⟨rfl, hb⟩; refine ⟨_, rfl, ?_⟩; have n0_ := Aside0.mk (blk_below (g := gb450) (o := .cells #[.int .i64 a0_0, .int .i64 a0_1] 23 (0, 0)) (by (with_reducible repeat (first | refine blk_drewN ?_ _ | refine blk_drew ?_ | refine blk_alloc ?_ _)); exact BK450.out) hb); have n1_ := Aside0.mk (blk_below (g := gb451) (o := .cells #[.int .i64 a1_0, .int .i64 a1_1] 23 (0, 0)) (by (with_reducible repeat (first | refine blk_drewN ?_ _ | refine blk_drew ?_ | refine blk_alloc ?_ _)); exact BK451.out) hb); have n2_ := Aside0.mk (blk_below (g := gb452) (o := .cells #[.int .i64 a2_0, .int .i64 a2_1] 23 (0, 0)) (by (with_reducible repeat (first | refine blk_drewN ?_ _ | refine blk_drew ?_ | refine blk_alloc ?_ _)); exact BK452.out) hb); have n3_ := Aside0.mk (below_step (by repeat (first | (with_reducible first | exact HB.out | apply below_alloc | apply pw_below_drewN | apply below_drew1 | refine below_set ?_ GE450.out | refine below_set ?_ GE451.out | refine below_set ?_ GE452.out) | exact HB.out)) hb); clear BK450; clear BK451; clear BK452; clear HB; have BK450 := n0_; have BK451 := n1_; have BK452 := n2_; have HB := n3_; clear n0_ n1_ n2_ n3_; (try clear hb); (try clear hb2); (try clear hk); (try clear hi)))
 (try simp only [Act.put, List.setIfInBounds_toArray, List.set_cons_zero, List.set_cons_succ])
 go_cut [47] (fun v47 wc => ∃ (kq : Nat) (x47_6 : Bool), v47 = .bool x47_6 ∧ Aside0 (ridgewaylaw02_PrefixOrder.j0 kq t453 t454 t455 x47_6 a0_0 a0_1 a2_0 a2_1 = some r) ∧ Aside0 (kq ≤ k) ∧ Aside0 (wc.heap[gb450]? = some (.cells #[.int .i64 a0_0, .int .i64 a0_1] 23 (0, 0))) ∧ Aside0 (wc.heap[gb451]? = some (.cells #[.int .i64 a1_0, .int .i64 a1_1] 23 (0, 0))) ∧ Aside0 (wc.heap[gb452]? = some (.cells #[.int .i64 a2_0, .int .i64 a2_1] 23 (0, 0))) ∧ Aside0 (Below w.heap.size w wc))
 case first =>
  have H := HC7.out
  clear HC7
  by_cases c21 : t454 < (-1)
  ·rw [if_pos c21] at H
   have c21b0 : decide (t454 < (-1)) = true := decide_eq_true c21
   clear c21
   (first | (rw [c21b0]; skip) | (have cw_ := c21b0; simp only [gt_iff_lt, ge_iff_le, Int.natCast_pos] at cw_; rw [cw_]; clear cw_; skip) | skip)
   have H' := Aside0.mk H
   clear H
   go_wp2
   go_meet
   case rel => exact ⟨_, (true), (by first | rfl | (simp; done) | (simp [*]; done)), H', ⟨by first | omega | exact Nat.le_refl _⟩, ⟨by (with_reducible repeat (first | refine blk_drewN ?_ _ | refine blk_drew ?_ | refine blk_alloc ?_ _)); exact BK450.out⟩, ⟨by (with_reducible repeat (first | refine blk_drewN ?_ _ | refine blk_drew ?_ | refine blk_alloc ?_ _)); exact BK451.out⟩, ⟨by (with_reducible repeat (first | refine blk_drewN ?_ _ | refine blk_drew ?_ | refine blk_alloc ?_ _)); exact BK452.out⟩, ⟨by repeat (first | (with_reducible first | exact HB.out | apply below_alloc | apply pw_below_drewN | apply below_drew1 | refine below_set ?_ GE450.out | refine below_set ?_ GE451.out | refine below_set ?_ GE452.out) | exact HB.out)⟩⟩
  ·rw [if_neg c21] at H
   have c21b0 : decide (t454 < (-1)) = false := decide_eq_false c21
   clear c21
   (first | (rw [c21b0]; skip) | (have cw_ := c21b0; simp only [gt_iff_lt, ge_iff_le, Int.natCast_pos] at cw_; rw [cw_]; clear cw_; skip) | skip)
   by_cases c22 : t454 > 1
   ·rw [if_pos c22] at H
    have c22b0 : decide (1 < t454) = true := decide_eq_true c22
    clear c22
    have H' := Aside0.mk H
    clear H
    go_wp2
    go_meet
    case rel => exact ⟨_, (true), (by first | rfl | (simp; done) | (simp [*]; done)), H', ⟨by first | omega | exact Nat.le_refl _⟩, ⟨by (with_reducible repeat (first | refine blk_drewN ?_ _ | refine blk_drew ?_ | refine blk_alloc ?_ _)); exact BK450.out⟩, ⟨by (with_reducible repeat (first | refine blk_drewN ?_ _ | refine blk_drew ?_ | refine blk_alloc ?_ _)); exact BK451.out⟩, ⟨by (with_reducible repeat (first | refine blk_drewN ?_ _ | refine blk_drew ?_ | refine blk_alloc ?_ _)); exact BK452.out⟩, ⟨by repeat (first | (with_reducible first | exact HB.out | apply below_alloc | apply pw_below_drewN | apply below_drew1 | refine below_set ?_ GE450.out | refine below_set ?_ GE451.out | refine below_set ?_ GE452.out) | exact HB.out)⟩⟩
   ·rw [if_neg c22] at H
    have c22b0 : decide (1 < t454) = false := decide_eq_false c22
    clear c22
    replace H := Option.bind_eq_some_iff.mp H
    obtain ⟨t456, A230, H⟩ := H
    replace H : (if t456 = (wrap64 (-t454)) then (if ((t454 == 0) != (a0_0 == a1_0 && (a0_1 == a1_1))) = true then (ridgewaylaw02_PrefixOrder.j0 k t453 t454 t455 true a0_0 a0_1 a2_0 a2_1) else ((prefix_Has.f a0_0 a0_1 a1_0 a1_1).bind fun t457 => (if t457 = true then (ridgewaylaw02_PrefixOrder.j0 k t453 t454 t455 (decide (t454 > 0)) a0_0 a0_1 a2_0 a2_1) else (ridgewaylaw02_PrefixOrder.j0 k t453 t454 t455 false a0_0 a0_1 a2_0 a2_1)))) else (ridgewaylaw02_PrefixOrder.j0 k t453 t454 t455 true a0_0 a0_1 a2_0 a2_1)) = some r := H
    have A23 := Aside0.mk A230
    clear A230
    by_cases c24 : t456 = (wrap64 (-t454))
    ·rw [if_pos c24] at H
     have c24b0 : (t456 == (wrap64 (-t454))) = true := beq_iff_eq.mpr c24
     have c24b1 : (t456 != (wrap64 (-t454))) = false := bne_eq_false_iff_eq.mpr c24
     clear c24
     by_cases c25 : ((t454 == 0) != (a0_0 == a1_0 && (a0_1 == a1_1))) = true
     ·rw [if_pos c25] at H
      have c25b0 : ((t454 == 0) != (a0_0 == a1_0 && (a0_1 == a1_1))) = true := c25
      (try (have c25b1 : decide ((t454 == 0) = (a0_0 == a1_0 && (a0_1 == a1_1))) = false := by simpa using c25))
      (try (have c25b2 : ((t454 == 0) == (a0_0 == a1_0 && (a0_1 == a1_1))) = false := by simpa using c25))
      (try (have c25b3 : ¬ ((t454 == 0) = (a0_0 == a1_0 && (a0_1 == a1_1))) := by simpa using c25))
      clear c25
      have H' := Aside0.mk H
      clear H
      have hnb26 := NB451_450.out
      have hnc26 := NB450_451.out
      have hnb27 := NB451_452.out
      have hnc27 := NB452_451.out
      have hcz28_0 : w20.cell? ⟨gb451, 0, none⟩ = some (.int .i64 a1_0) := (blk_cell BK451.out 0).trans rfl
      have hcz28_1 : w20.cell? ⟨gb451, 1, none⟩ = some (.int .i64 a1_1) := (blk_cell BK451.out 1).trans rfl
      have hfz28_0 := blk_frozen BK451.out 0
      have hfz28_1 := blk_frozen BK451.out 1
      have hnb29 := NB450_452.out
      have hnc29 := NB452_450.out
      have hcz30_0 : w20.cell? ⟨gb450, 0, none⟩ = some (.int .i64 a0_0) := (blk_cell BK450.out 0).trans rfl
      have hcz30_1 : w20.cell? ⟨gb450, 1, none⟩ = some (.int .i64 a0_1) := (blk_cell BK450.out 1).trans rfl
      have hfz30_0 := blk_frozen BK450.out 0
      have hfz30_1 := blk_frozen BK450.out 1
      go_wp2_with (first | (go_at_call 24; (with_reducible refine (prefix_Compare.calls k a1_0 a1_1 a0_0 a0_1 t456 _ A23.out).mono ?_); rintro e w31 ⟨rfl, hb⟩; have n0_ := Aside0.mk (blk_below (g := gb450) (o := .cells #[.int .i64 a0_0, .int .i64 a0_1] 23 (0, 0)) (by (with_reducible repeat (first | refine blk_drewN ?_ _ | refine blk_drew ?_ | refine blk_alloc ?_ _)); exact BK450.out) hb); have n1_ := Aside0.mk (blk_below (g := gb451) (o := .cells #[.int .i64 a1_0, .int .i64 a1_1] 23 (0, 0)) (by (with_reducible repeat (first | refine blk_drewN ?_ _ | refine blk_drew ?_ | refine blk_alloc ?_ _)); exact BK451.out) hb); have n2_ := Aside0.mk (blk_below (g := gb452) (o := .cells #[.int .i64 a2_0, .int .i64 a2_1] 23 (0, 0)) (by (with_reducible repeat (first | refine blk_drewN ?_ _ | refine blk_drew ?_ | refine blk_alloc ?_ _)); exact BK452.out) hb); have n3_ := Aside0.mk (below_step (by repeat (first | (with_reducible first | exact HB.out | apply below_alloc | apply pw_below_drewN | apply below_drew1 | refine below_set ?_ GE450.out | refine below_set ?_ GE451.out | refine below_set ?_ GE452.out) | exact HB.out)) hb); clear BK450; clear BK451; clear BK452; clear HB; have BK450 := n0_; have BK451 := n1_; have BK452 := n2_; have HB := n3_; clear n0_ n1_ n2_ n3_; (try clear hb); (try clear hb2); (try clear hk); (try clear hi); have hcz32_0 : w31.cell? ⟨gb450, 0, none⟩ = some (.int .i64 a0_0) := (blk_cell BK450.out 0).trans rfl; have hcz32_1 : w31.cell? ⟨gb450, 1, none⟩ = some (.int .i64 a0_1) := (blk_cell BK450.out 1).trans rfl; have hfz32_0 := blk_frozen BK450.out 0; have hfz32_1 := blk_frozen BK450.out 1; have hcz33_0 : w31.cell? ⟨gb451, 0, none⟩ = some (.int .i64 a1_0) := (blk_cell BK451.out 0).trans rfl; have hcz33_1 : w31.cell? ⟨gb451, 1, none⟩ = some (.int .i64 a1_1) := (blk_cell BK451.out 1).trans rfl; have hfz33_0 := blk_frozen BK451.out 0; have hfz33_1 := blk_frozen BK451.out 1))
      go_meet
      case rel => exact ⟨_, (true), (by first | rfl | (simp; done) | (simp [*]; done)), H', ⟨by first | omega | exact Nat.le_refl _⟩, ⟨by (with_reducible repeat (first | refine blk_drewN ?_ _ | refine blk_drew ?_ | refine blk_alloc ?_ _)); exact BK450.out⟩, ⟨by (with_reducible repeat (first | refine blk_drewN ?_ _ | refine blk_drew ?_ | refine blk_alloc ?_ _)); exact BK451.out⟩, ⟨by (with_reducible repeat (first | refine blk_drewN ?_ _ | refine blk_drew ?_ | refine blk_alloc ?_ _)); exact BK452.out⟩, ⟨by repeat (first | (with_reducible first | exact HB.out | apply below_alloc | apply pw_below_drewN | apply below_drew1 | refine below_set ?_ GE450.out | refine below_set ?_ GE451.out | refine below_set ?_ GE452.out) | exact HB.out)⟩⟩
     ·rw [if_neg c25] at H
      have c25b0 : ((t454 == 0) != (a0_0 == a1_0 && (a0_1 == a1_1))) = false := by simpa using c25
      (try (have c25b1 : decide ((t454 == 0) = (a0_0 == a1_0 && (a0_1 == a1_1))) = true := by simpa using c25))
      (try (have c25b2 : ((t454 == 0) == (a0_0 == a1_0 && (a0_1 == a1_1))) = true := by simpa using c25))
      clear c25
      replace H := Option.bind_eq_some_iff.mp H
      obtain ⟨t457, A340, H⟩ := H
      replace H : (if t457 = true then (ridgewaylaw02_PrefixOrder.j0 k t453 t454 t455 (decide (t454 > 0)) a0_0 a0_1 a2_0 a2_1) else (ridgewaylaw02_PrefixOrder.j0 k t453 t454 t455 false a0_0 a0_1 a2_0 a2_1)) = some r := H
      have A34 := Aside0.mk A340
      clear A340
      by_cases c35 : t457 = true
      ·subst c35
       have H1 : (ridgewaylaw02_PrefixOrder.j0 k t453 t454 t455 (decide (t454 > 0)) a0_0 a0_1 a2_0 a2_1) = some r := by rw [if_pos rfl] at H; exact H
       clear H
       have H := H1
       clear H1
       have H' := Aside0.mk H
       clear H
       have hnb36 := NB451_450.out
       have hnc36 := NB450_451.out
       have hnb37 := NB451_452.out
       have hnc37 := NB452_451.out
       have hcz38_0 : w20.cell? ⟨gb451, 0, none⟩ = some (.int .i64 a1_0) := (blk_cell BK451.out 0).trans rfl
       have hcz38_1 : w20.cell? ⟨gb451, 1, none⟩ = some (.int .i64 a1_1) := (blk_cell BK451.out 1).trans rfl
       have hfz38_0 := blk_frozen BK451.out 0
       have hfz38_1 := blk_frozen BK451.out 1
       have hnb39 := NB450_452.out
       have hnc39 := NB452_450.out
       have hcz40_0 : w20.cell? ⟨gb450, 0, none⟩ = some (.int .i64 a0_0) := (blk_cell BK450.out 0).trans rfl
       have hcz40_1 : w20.cell? ⟨gb450, 1, none⟩ = some (.int .i64 a0_1) := (blk_cell BK450.out 1).trans rfl
       have hfz40_0 := blk_frozen BK450.out 0
       have hfz40_1 := blk_frozen BK450.out 1
       go_wp2_with (first | (go_at_call 24; (with_reducible refine (prefix_Compare.calls k a1_0 a1_1 a0_0 a0_1 t456 _ A23.out).mono ?_); rintro e w41 ⟨rfl, hb⟩; have n0_ := Aside0.mk (blk_below (g := gb450) (o := .cells #[.int .i64 a0_0, .int .i64 a0_1] 23 (0, 0)) (by (with_reducible repeat (first | refine blk_drewN ?_ _ | refine blk_drew ?_ | refine blk_alloc ?_ _)); exact BK450.out) hb); have n1_ := Aside0.mk (blk_below (g := gb451) (o := .cells #[.int .i64 a1_0, .int .i64 a1_1] 23 (0, 0)) (by (with_reducible repeat (first | refine blk_drewN ?_ _ | refine blk_drew ?_ | refine blk_alloc ?_ _)); exact BK451.out) hb); have n2_ := Aside0.mk (blk_below (g := gb452) (o := .cells #[.int .i64 a2_0, .int .i64 a2_1] 23 (0, 0)) (by (with_reducible repeat (first | refine blk_drewN ?_ _ | refine blk_drew ?_ | refine blk_alloc ?_ _)); exact BK452.out) hb); have n3_ := Aside0.mk (below_step (by repeat (first | (with_reducible first | exact HB.out | apply below_alloc | apply pw_below_drewN | apply below_drew1 | refine below_set ?_ GE450.out | refine below_set ?_ GE451.out | refine below_set ?_ GE452.out) | exact HB.out)) hb); clear BK450; clear BK451; clear BK452; clear HB; have BK450 := n0_; have BK451 := n1_; have BK452 := n2_; have HB := n3_; clear n0_ n1_ n2_ n3_; (try clear hb); (try clear hb2); (try clear hk); (try clear hi); have hcz42_0 : w41.cell? ⟨gb450, 0, none⟩ = some (.int .i64 a0_0) := (blk_cell BK450.out 0).trans rfl; have hcz42_1 : w41.cell? ⟨gb450, 1, none⟩ = some (.int .i64 a0_1) := (blk_cell BK450.out 1).trans rfl; have hfz42_0 := blk_frozen BK450.out 0; have hfz42_1 := blk_frozen BK450.out 1; have hcz43_0 : w41.cell? ⟨gb451, 0, none⟩ = some (.int .i64 a1_0) := (blk_cell BK451.out 0).trans rfl; have hcz43_1 : w41.cell? ⟨gb451, 1, none⟩ = some (.int .i64 a1_1) := (blk_cell BK451.out 1).trans rfl; have hfz43_0 := blk_frozen BK451.out 0; have hfz43_1 := blk_frozen BK451.out 1) | (go_at_call 22; (with_reducible refine (prefix_Has.calls a0_0 a0_1 a1_0 a1_1 true _ A34.out).mono ?_); rintro e w44 ⟨rfl, hb⟩; have n0_ := Aside0.mk (blk_below (g := gb450) (o := .cells #[.int .i64 a0_0, .int .i64 a0_1] 23 (0, 0)) (by (with_reducible repeat (first | refine blk_drewN ?_ _ | refine blk_drew ?_ | refine blk_alloc ?_ _)); exact BK450.out) hb); have n1_ := Aside0.mk (blk_below (g := gb451) (o := .cells #[.int .i64 a1_0, .int .i64 a1_1] 23 (0, 0)) (by (with_reducible repeat (first | refine blk_drewN ?_ _ | refine blk_drew ?_ | refine blk_alloc ?_ _)); exact BK451.out) hb); have n2_ := Aside0.mk (blk_below (g := gb452) (o := .cells #[.int .i64 a2_0, .int .i64 a2_1] 23 (0, 0)) (by (with_reducible repeat (first | refine blk_drewN ?_ _ | refine blk_drew ?_ | refine blk_alloc ?_ _)); exact BK452.out) hb); have n3_ := Aside0.mk (below_step (by repeat (first | (with_reducible first | exact HB.out | apply below_alloc | apply pw_below_drewN | apply below_drew1 | refine below_set ?_ GE450.out | refine below_set ?_ GE451.out | refine below_set ?_ GE452.out) | exact HB.out)) hb); clear BK450; clear BK451; clear BK452; clear HB; have BK450 := n0_; have BK451 := n1_; have BK452 := n2_; have HB := n3_; clear n0_ n1_ n2_ n3_; (try clear hb); (try clear hb2); (try clear hk); (try clear hi)))
       go_meet
       case rel => exact ⟨_, (decide (t454 > 0)), (by first | rfl | (simp; done) | (simp [*]; done)), H', ⟨by first | omega | exact Nat.le_refl _⟩, ⟨by (with_reducible repeat (first | refine blk_drewN ?_ _ | refine blk_drew ?_ | refine blk_alloc ?_ _)); exact BK450.out⟩, ⟨by (with_reducible repeat (first | refine blk_drewN ?_ _ | refine blk_drew ?_ | refine blk_alloc ?_ _)); exact BK451.out⟩, ⟨by (with_reducible repeat (first | refine blk_drewN ?_ _ | refine blk_drew ?_ | refine blk_alloc ?_ _)); exact BK452.out⟩, ⟨by repeat (first | (with_reducible first | exact HB.out | apply below_alloc | apply pw_below_drewN | apply below_drew1 | refine below_set ?_ GE450.out | refine below_set ?_ GE451.out | refine below_set ?_ GE452.out) | exact HB.out)⟩⟩
      ·replace c35 := Bool.eq_false_iff.mpr c35
       subst c35
       have H1 : (ridgewaylaw02_PrefixOrder.j0 k t453 t454 t455 false a0_0 a0_1 a2_0 a2_1) = some r := by rw [if_neg (show ¬ (false = true) by decide)] at H; exact H
       clear H
       have H := H1
       clear H1
       have H' := Aside0.mk H
       clear H
       have hnb45 := NB451_450.out
       have hnc45 := NB450_451.out
       have hnb46 := NB451_452.out
       have hnc46 := NB452_451.out
       have hcz47_0 : w20.cell? ⟨gb451, 0, none⟩ = some (.int .i64 a1_0) := (blk_cell BK451.out 0).trans rfl
       have hcz47_1 : w20.cell? ⟨gb451, 1, none⟩ = some (.int .i64 a1_1) := (blk_cell BK451.out 1).trans rfl
       have hfz47_0 := blk_frozen BK451.out 0
       have hfz47_1 := blk_frozen BK451.out 1
       have hnb48 := NB450_452.out
       have hnc48 := NB452_450.out
       have hcz49_0 : w20.cell? ⟨gb450, 0, none⟩ = some (.int .i64 a0_0) := (blk_cell BK450.out 0).trans rfl
       have hcz49_1 : w20.cell? ⟨gb450, 1, none⟩ = some (.int .i64 a0_1) := (blk_cell BK450.out 1).trans rfl
       have hfz49_0 := blk_frozen BK450.out 0
       have hfz49_1 := blk_frozen BK450.out 1
       go_wp2_with (first | (go_at_call 24; (with_reducible refine (prefix_Compare.calls k a1_0 a1_1 a0_0 a0_1 t456 _ A23.out).mono ?_); rintro e w50 ⟨rfl, hb⟩; have n0_ := Aside0.mk (blk_below (g := gb450) (o := .cells #[.int .i64 a0_0, .int .i64 a0_1] 23 (0, 0)) (by (with_reducible repeat (first | refine blk_drewN ?_ _ | refine blk_drew ?_ | refine blk_alloc ?_ _)); exact BK450.out) hb); have n1_ := Aside0.mk (blk_below (g := gb451) (o := .cells #[.int .i64 a1_0, .int .i64 a1_1] 23 (0, 0)) (by (with_reducible repeat (first | refine blk_drewN ?_ _ | refine blk_drew ?_ | refine blk_alloc ?_ _)); exact BK451.out) hb); have n2_ := Aside0.mk (blk_below (g := gb452) (o := .cells #[.int .i64 a2_0, .int .i64 a2_1] 23 (0, 0)) (by (with_reducible repeat (first | refine blk_drewN ?_ _ | refine blk_drew ?_ | refine blk_alloc ?_ _)); exact BK452.out) hb); have n3_ := Aside0.mk (below_step (by repeat (first | (with_reducible first | exact HB.out | apply below_alloc | apply pw_below_drewN | apply below_drew1 | refine below_set ?_ GE450.out | refine below_set ?_ GE451.out | refine below_set ?_ GE452.out) | exact HB.out)) hb); clear BK450; clear BK451; clear BK452; clear HB; have BK450 := n0_; have BK451 := n1_; have BK452 := n2_; have HB := n3_; clear n0_ n1_ n2_ n3_; (try clear hb); (try clear hb2); (try clear hk); (try clear hi); have hcz51_0 : w50.cell? ⟨gb450, 0, none⟩ = some (.int .i64 a0_0) := (blk_cell BK450.out 0).trans rfl; have hcz51_1 : w50.cell? ⟨gb450, 1, none⟩ = some (.int .i64 a0_1) := (blk_cell BK450.out 1).trans rfl; have hfz51_0 := blk_frozen BK450.out 0; have hfz51_1 := blk_frozen BK450.out 1; have hcz52_0 : w50.cell? ⟨gb451, 0, none⟩ = some (.int .i64 a1_0) := (blk_cell BK451.out 0).trans rfl; have hcz52_1 : w50.cell? ⟨gb451, 1, none⟩ = some (.int .i64 a1_1) := (blk_cell BK451.out 1).trans rfl; have hfz52_0 := blk_frozen BK451.out 0; have hfz52_1 := blk_frozen BK451.out 1) | (go_at_call 22; (with_reducible refine (prefix_Has.calls a0_0 a0_1 a1_0 a1_1 false _ A34.out).mono ?_); rintro e w53 ⟨rfl, hb⟩; have n0_ := Aside0.mk (blk_below (g := gb450) (o := .cells #[.int .i64 a0_0, .int .i64 a0_1] 23 (0, 0)) (by (with_reducible repeat (first | refine blk_drewN ?_ _ | refine blk_drew ?_ | refine blk_alloc ?_ _)); exact BK450.out) hb); have n1_ := Aside0.mk (blk_below (g := gb451) (o := .cells #[.int .i64 a1_0, .int .i64 a1_1] 23 (0, 0)) (by (with_reducible repeat (first | refine blk_drewN ?_ _ | refine blk_drew ?_ | refine blk_alloc ?_ _)); exact BK451.out) hb); have n2_ := Aside0.mk (blk_below (g := gb452) (o := .cells #[.int .i64 a2_0, .int .i64 a2_1] 23 (0, 0)) (by (with_reducible repeat (first | refine blk_drewN ?_ _ | refine blk_drew ?_ | refine blk_alloc ?_ _)); exact BK452.out) hb); have n3_ := Aside0.mk (below_step (by repeat (first | (with_reducible first | exact HB.out | apply below_alloc | apply pw_below_drewN | apply below_drew1 | refine below_set ?_ GE450.out | refine below_set ?_ GE451.out | refine below_set ?_ GE452.out) | exact HB.out)) hb); clear BK450; clear BK451; clear BK452; clear HB; have BK450 := n0_; have BK451 := n1_; have BK452 := n2_; have HB := n3_; clear n0_ n1_ n2_ n3_; (try clear hb); (try clear hb2); (try clear hk); (try clear hi)))
       go_meet
       case rel => exact ⟨_, (false), (by first | rfl | (simp; done) | (simp [*]; done)), H', ⟨by first | omega | exact Nat.le_refl _⟩, ⟨by (with_reducible repeat (first | refine blk_drewN ?_ _ | refine blk_drew ?_ | refine blk_alloc ?_ _)); exact BK450.out⟩, ⟨by (with_reducible repeat (first | refine blk_drewN ?_ _ | refine blk_drew ?_ | refine blk_alloc ?_ _)); exact BK451.out⟩, ⟨by (with_reducible repeat (first | refine blk_drewN ?_ _ | refine blk_drew ?_ | refine blk_alloc ?_ _)); exact BK452.out⟩, ⟨by repeat (first | (with_reducible first | exact HB.out | apply below_alloc | apply pw_below_drewN | apply below_drew1 | refine below_set ?_ GE450.out | refine below_set ?_ GE451.out | refine below_set ?_ GE452.out) | exact HB.out)⟩⟩
    ·rw [if_neg c24] at H
     have c24b0 : (t456 == (wrap64 (-t454))) = false := beq_eq_false_iff_ne.mpr c24
     have c24b1 : (t456 != (wrap64 (-t454))) = true := bne_iff_ne.mpr c24
     have H' := Aside0.mk H
     clear H
     have hnb54 := NB451_450.out
     have hnc54 := NB450_451.out
     have hnb55 := NB451_452.out
     have hnc55 := NB452_451.out
     have hcz56_0 : w20.cell? ⟨gb451, 0, none⟩ = some (.int .i64 a1_0) := (blk_cell BK451.out 0).trans rfl
     have hcz56_1 : w20.cell? ⟨gb451, 1, none⟩ = some (.int .i64 a1_1) := (blk_cell BK451.out 1).trans rfl
     have hfz56_0 := blk_frozen BK451.out 0
     have hfz56_1 := blk_frozen BK451.out 1
     have hnb57 := NB450_452.out
     have hnc57 := NB452_450.out
     have hcz58_0 : w20.cell? ⟨gb450, 0, none⟩ = some (.int .i64 a0_0) := (blk_cell BK450.out 0).trans rfl
     have hcz58_1 : w20.cell? ⟨gb450, 1, none⟩ = some (.int .i64 a0_1) := (blk_cell BK450.out 1).trans rfl
     have hfz58_0 := blk_frozen BK450.out 0
     have hfz58_1 := blk_frozen BK450.out 1
     go_wp2_with (first | (go_at_call 24; (with_reducible refine (prefix_Compare.calls k a1_0 a1_1 a0_0 a0_1 t456 _ A23.out).mono ?_); rintro e w59 ⟨rfl, hb⟩; have n0_ := Aside0.mk (blk_below (g := gb450) (o := .cells #[.int .i64 a0_0, .int .i64 a0_1] 23 (0, 0)) (by (with_reducible repeat (first | refine blk_drewN ?_ _ | refine blk_drew ?_ | refine blk_alloc ?_ _)); exact BK450.out) hb); have n1_ := Aside0.mk (blk_below (g := gb451) (o := .cells #[.int .i64 a1_0, .int .i64 a1_1] 23 (0, 0)) (by (with_reducible repeat (first | refine blk_drewN ?_ _ | refine blk_drew ?_ | refine blk_alloc ?_ _)); exact BK451.out) hb); have n2_ := Aside0.mk (blk_below (g := gb452) (o := .cells #[.int .i64 a2_0, .int .i64 a2_1] 23 (0, 0)) (by (with_reducible repeat (first | refine blk_drewN ?_ _ | refine blk_drew ?_ | refine blk_alloc ?_ _)); exact BK452.out) hb); have n3_ := Aside0.mk (below_step (by repeat (first | (with_reducible first | exact HB.out | apply below_alloc | apply pw_below_drewN | apply below_drew1 | refine below_set ?_ GE450.out | refine below_set ?_ GE451.out | refine below_set ?_ GE452.out) | exact HB.out)) hb); clear BK450; clear BK451; clear BK452; clear HB; have BK450 := n0_; have BK451 := n1_; have BK452 := n2_; have HB := n3_; clear n0_ n1_ n2_ n3_; (try clear hb); (try clear hb2); (try clear hk); (try clear hi)))
     go_meet
     case rel => exact ⟨_, (true), (by first | rfl | (simp; done) | (simp [*]; done)), H', ⟨by first | omega | exact Nat.le_refl _⟩, ⟨by (with_reducible repeat (first | refine blk_drewN ?_ _ | refine blk_drew ?_ | refine blk_alloc ?_ _)); exact BK450.out⟩, ⟨by (with_reducible repeat (first | refine blk_drewN ?_ _ | refine blk_drew ?_ | refine blk_alloc ?_ _)); exact BK451.out⟩, ⟨by (with_reducible repeat (first | refine blk_drewN ?_ _ | refine blk_drew ?_ | refine blk_alloc ?_ _)); exact BK452.out⟩, ⟨by repeat (first | (with_reducible first | exact HB.out | apply below_alloc | apply pw_below_drewN | apply below_drew1 | refine below_set ?_ GE450.out | refine below_set ?_ GE451.out | refine below_set ?_ GE452.out) | exact HB.out)⟩⟩
 case rest =>
  clear HC7
  try clear c1
  try clear c2
  try clear p2
  try clear c3
  try clear c4
  try clear c5
  try clear p6
  try clear c8
  try clear c10
  try clear c12
  try clear c13
  try clear c15
  try clear c21
  try clear c21b0
  try clear c22
  try clear c22b0
  try clear c24
  try clear c24b0
  try clear c24b1
  try clear c25
  try clear c25b0
  try clear c25b1
  try clear c25b2
  try clear c26
  try clear c27
  try clear c29
  try clear c35
  try clear c36
  try clear c37
  try clear c39
  try clear c45
  try clear c46
  try clear c48
  try clear c54
  try clear c55
  try clear c57
  try clear hcz14_0
  try clear hcz14_1
  try clear hcz16_0
  try clear hcz16_1
  try clear hcz18_0
  try clear hcz18_1
  try clear hcz19_0
  try clear hcz19_1
  try clear hcz28_0
  try clear hcz28_1
  try clear hcz30_0
  try clear hcz30_1
  try clear hcz32_0
  try clear hcz32_1
  try clear hcz33_0
  try clear hcz33_1
  try clear hcz38_0
  try clear hcz38_1
  try clear hcz40_0
  try clear hcz40_1
  try clear hcz42_0
  try clear hcz42_1
  try clear hcz43_0
  try clear hcz43_1
  try clear hcz47_0
  try clear hcz47_1
  try clear hcz49_0
  try clear hcz49_1
  try clear hcz51_0
  try clear hcz51_1
  try clear hcz52_0
  try clear hcz52_1
  try clear hcz56_0
  try clear hcz56_1
  try clear hcz58_0
  try clear hcz58_1
  try clear hfz14_0
  try clear hfz14_1
  try clear hfz16_0
  try clear hfz16_1
  try clear hfz18_0
  try clear hfz18_1
  try clear hfz19_0
  try clear hfz19_1
  try clear hfz28_0
  try clear hfz28_1
  try clear hfz30_0
  try clear hfz30_1
  try clear hfz32_0
  try clear hfz32_1
  try clear hfz33_0
  try clear hfz33_1
  try clear hfz38_0
  try clear hfz38_1
  try clear hfz40_0
  try clear hfz40_1
  try clear hfz42_0
  try clear hfz42_1
  try clear hfz43_0
  try clear hfz43_1
  try clear hfz47_0
  try clear hfz47_1
  try clear hfz49_0
  try clear hfz49_1
  try clear hfz51_0
  try clear hfz51_1
  try clear hfz52_0
  try clear hfz52_1
  try clear hfz56_0
  try clear hfz56_1
  try clear hfz58_0
  try clear hfz58_1
  obtain ⟨kq, x47_6, rfl, HA, HJ6, BK450, BK451, BK452, HB⟩ := hcut
  cases kq with
  | zero => exact absurd HA.out (by simp [ridgewaylaw02_PrefixOrder.j0])
  | succ kj6 =>
   have H := HA.out
   clear HA
   simp only [ridgewaylaw02_PrefixOrder.j0] at H
   by_cases c60 : x47_6 = true
   ·subst c60
    have H1 : (none) = some r := by rw [if_pos rfl] at H; exact H
    clear H
    have H := H1
    clear H1
    exact absurd H (by simp)
   ·replace c60 := Bool.eq_false_iff.mpr c60
    subst c60
    have H1 : (if t453 = true then (if t454 > 0 then (if t454 ≥ 0 then (some true) else (if t455 > 0 then (some true) else ((prefix_Compare.f kj6 a0_0 a0_1 a2_0 a2_1).bind fun t458 => (some (decide (t458 < 0)))))) else (if t455 > 0 then (if t454 ≥ 0 then (some true) else (some true)) else ((prefix_Compare.f kj6 a0_0 a0_1 a2_0 a2_1).bind fun t459 => (if t459 ≤ 0 then (if t454 ≥ 0 then (some true) else ((prefix_Compare.f kj6 a0_0 a0_1 a2_0 a2_1).bind fun t460 => (some (decide (t460 < 0))))) else (none))))) else (none)) = some r := by rw [if_neg (show ¬ (false = true) by decide)] at H; exact H
    clear H
    have H := H1
    clear H1
    by_cases c61 : t453 = true
    ·subst c61
     have H1 : (if t454 > 0 then (if t454 ≥ 0 then (some true) else (if t455 > 0 then (some true) else ((prefix_Compare.f kj6 a0_0 a0_1 a2_0 a2_1).bind fun t458 => (some (decide (t458 < 0)))))) else (if t455 > 0 then (if t454 ≥ 0 then (some true) else (some true)) else ((prefix_Compare.f kj6 a0_0 a0_1 a2_0 a2_1).bind fun t459 => (if t459 ≤ 0 then (if t454 ≥ 0 then (some true) else ((prefix_Compare.f kj6 a0_0 a0_1 a2_0 a2_1).bind fun t460 => (some (decide (t460 < 0))))) else (none))))) = some r := by rw [if_pos rfl] at H; exact H
     clear H
     have H := H1
     clear H1
     by_cases c62 : t454 > 0
     ·rw [if_pos c62] at H
      have c62b0 : decide (0 < t454) = true := decide_eq_true c62
      clear c62
      by_cases c63 : t454 ≥ 0
      ·rw [if_pos c63] at H
       have c63b0 : decide (0 ≤ t454) = true := decide_eq_true c63
       clear c63
       obtain rfl := Option.some.inj H
       go_wp2
       go_ret
       exact ⟨by first | rfl | (simp [errW_none, errW_some] <;> rfl) | (simp [*, errW_none, errW_some] <;> rfl), by repeat (first | (with_reducible first | exact HB.out | apply below_alloc | apply pw_below_drewN | apply below_drew1 | refine below_set ?_ GE450.out | refine below_set ?_ GE451.out | refine below_set ?_ GE452.out) | exact HB.out)⟩
      ·rw [if_neg c63] at H
       have c63b0 : decide (0 ≤ t454) = false := decide_eq_false c63
       clear c63
       by_cases c64 : t455 > 0
       ·rw [if_pos c64] at H
        have c64b0 : decide (0 < t455) = true := decide_eq_true c64
        clear c64
        obtain rfl := Option.some.inj H
        go_wp2
        go_ret
        exact ⟨by first | rfl | (simp [errW_none, errW_some] <;> rfl) | (simp [*, errW_none, errW_some] <;> rfl), by repeat (first | (with_reducible first | exact HB.out | apply below_alloc | apply pw_below_drewN | apply below_drew1 | refine below_set ?_ GE450.out | refine below_set ?_ GE451.out | refine below_set ?_ GE452.out) | exact HB.out)⟩
       ·rw [if_neg c64] at H
        have c64b0 : decide (0 < t455) = false := decide_eq_false c64
        clear c64
        replace H := Option.bind_eq_some_iff.mp H
        obtain ⟨t458, A650, H⟩ := H
        replace H : (some (decide (t458 < 0))) = some r := H
        have A65 := Aside0.mk A650
        clear A650
        obtain rfl := Option.some.inj H
        have hnb66 := NB450_451.out
        have hnc66 := NB451_450.out
        have hnb67 := NB450_452.out
        have hnc67 := NB452_450.out
        have hcz68_0 : wc.cell? ⟨gb450, 0, none⟩ = some (.int .i64 a0_0) := (blk_cell BK450.out 0).trans rfl
        have hcz68_1 : wc.cell? ⟨gb450, 1, none⟩ = some (.int .i64 a0_1) := (blk_cell BK450.out 1).trans rfl
        have hfz68_0 := blk_frozen BK450.out 0
        have hfz68_1 := blk_frozen BK450.out 1
        have hnb69 := NB452_451.out
        have hnc69 := NB451_452.out
        have hcz70_0 : wc.cell? ⟨gb452, 0, none⟩ = some (.int .i64 a2_0) := (blk_cell BK452.out 0).trans rfl
        have hcz70_1 : wc.cell? ⟨gb452, 1, none⟩ = some (.int .i64 a2_1) := (blk_cell BK452.out 1).trans rfl
        have hfz70_0 := blk_frozen BK452.out 0
        have hfz70_1 := blk_frozen BK452.out 1
        go_wp2_with (first | (go_at_call 24; (with_reducible refine (prefix_Compare.calls kj6 a0_0 a0_1 a2_0 a2_1 t458 _ A65.out).mono ?_); rintro e w71 ⟨rfl, hb⟩; have n0_ := Aside0.mk (blk_below (g := gb450) (o := .cells #[.int .i64 a0_0, .int .i64 a0_1] 23 (0, 0)) (by (with_reducible repeat (first | refine blk_drewN ?_ _ | refine blk_drew ?_ | refine blk_alloc ?_ _)); exact BK450.out) hb); have n1_ := Aside0.mk (blk_below (g := gb451) (o := .cells #[.int .i64 a1_0, .int .i64 a1_1] 23 (0, 0)) (by (with_reducible repeat (first | refine blk_drewN ?_ _ | refine blk_drew ?_ | refine blk_alloc ?_ _)); exact BK451.out) hb); have n2_ := Aside0.mk (blk_below (g := gb452) (o := .cells #[.int .i64 a2_0, .int .i64 a2_1] 23 (0, 0)) (by (with_reducible repeat (first | refine blk_drewN ?_ _ | refine blk_drew ?_ | refine blk_alloc ?_ _)); exact BK452.out) hb); have n3_ := Aside0.mk (below_step (by repeat (first | (with_reducible first | exact HB.out | apply below_alloc | apply pw_below_drewN | apply below_drew1 | refine below_set ?_ GE450.out | refine below_set ?_ GE451.out | refine below_set ?_ GE452.out) | exact HB.out)) hb); clear BK450; clear BK451; clear BK452; clear HB; have BK450 := n0_; have BK451 := n1_; have BK452 := n2_; have HB := n3_; clear n0_ n1_ n2_ n3_; (try clear hb); (try clear hb2); (try clear hk); (try clear hi)))
        go_ret
        exact ⟨by first | rfl | (simp [errW_none, errW_some] <;> rfl) | (simp [*, errW_none, errW_some] <;> rfl), by repeat (first | (with_reducible first | exact HB.out | apply below_alloc | apply pw_below_drewN | apply below_drew1 | refine below_set ?_ GE450.out | refine below_set ?_ GE451.out | refine below_set ?_ GE452.out) | exact HB.out)⟩
     ·rw [if_neg c62] at H
      have c62b0 : decide (0 < t454) = false := decide_eq_false c62
      clear c62
      by_cases c72 : t455 > 0
      ·rw [if_pos c72] at H
       have c72b0 : decide (0 < t455) = true := decide_eq_true c72
       clear c72
       by_cases c73 : t454 ≥ 0
       ·rw [if_pos c73] at H
        have c73b0 : decide (0 ≤ t454) = true := decide_eq_true c73
        clear c73
        obtain rfl := Option.some.inj H
        go_wp2
        go_ret
        exact ⟨by first | rfl | (simp [errW_none, errW_some] <;> rfl) | (simp [*, errW_none, errW_some] <;> rfl), by repeat (first | (with_reducible first | exact HB.out | apply below_alloc | apply pw_below_drewN | apply below_drew1 | refine below_set ?_ GE450.out | refine below_set ?_ GE451.out | refine below_set ?_ GE452.out) | exact HB.out)⟩
       ·rw [if_neg c73] at H
        have c73b0 : decide (0 ≤ t454) = false := decide_eq_false c73
        clear c73
        obtain rfl := Option.some.inj H
        go_wp2
        go_ret
        exact ⟨by first | rfl | (simp [errW_none, errW_some] <;> rfl) | (simp [*, errW_none, errW_some] <;> rfl), by repeat (first | (with_reducible first | exact HB.out | apply below_alloc | apply pw_below_drewN | apply below_drew1 | refine below_set ?_ GE450.out | refine below_set ?_ GE451.out | refine below_set ?_ GE452.out) | exact HB.out)⟩
      ·rw [if_neg c72] at H
       have c72b0 : decide (0 < t455) = false := decide_eq_false c72
       clear c72
       replace H := Option.bind_eq_some_iff.mp H
       obtain ⟨t459, A740, H⟩ := H
       replace H : (if t459 ≤ 0 then (if t454 ≥ 0 then (some true) else ((prefix_Compare.f kj6 a0_0 a0_1 a2_0 a2_1).bind fun t460 => (some (decide (t460 < 0))))) else (none)) = some r := H
       have A74 := Aside0.mk A740
       clear A740
       by_cases c75 : t459 ≤ 0
       ·rw [if_pos c75] at H
        have c75b0 : decide (t459 ≤ 0) = true := decide_eq_true c75
        clear c75
        by_cases c76 : t454 ≥ 0
        ·rw [if_pos c76] at H
         have c76b0 : decide (0 ≤ t454) = true := decide_eq_true c76
         clear c76
         obtain rfl := Option.some.inj H
         have hnb77 := NB450_451.out
         have hnc77 := NB451_450.out
         have hnb78 := NB450_452.out
         have hnc78 := NB452_450.out
         have hcz79_0 : wc.cell? ⟨gb450, 0, none⟩ = some (.int .i64 a0_0) := (blk_cell BK450.out 0).trans rfl
         have hcz79_1 : wc.cell? ⟨gb450, 1, none⟩ = some (.int .i64 a0_1) := (blk_cell BK450.out 1).trans rfl
         have hfz79_0 := blk_frozen BK450.out 0
         have hfz79_1 := blk_frozen BK450.out 1
         have hnb80 := NB452_451.out
         have hnc80 := NB451_452.out
         have hcz81_0 : wc.cell? ⟨gb452, 0, none⟩ = some (.int .i64 a2_0) := (blk_cell BK452.out 0).trans rfl
         have hcz81_1 : wc.cell? ⟨gb452, 1, none⟩ = some (.int .i64 a2_1) := (blk_cell BK452.out 1).trans rfl
         have hfz81_0 := blk_frozen BK452.out 0
         have hfz81_1 := blk_frozen BK452.out 1
         go_wp2_with (first | (go_at_call 24; (with_reducible refine (prefix_Compare.calls kj6 a0_0 a0_1 a2_0 a2_1 t459 _ A74.out).mono ?_); rintro e w82 ⟨rfl, hb⟩; have n0_ := Aside0.mk (blk_below (g := gb450) (o := .cells #[.int .i64 a0_0, .int .i64 a0_1] 23 (0, 0)) (by (with_reducible repeat (first | refine blk_drewN ?_ _ | refine blk_drew ?_ | refine blk_alloc ?_ _)); exact BK450.out) hb); have n1_ := Aside0.mk (blk_below (g := gb451) (o := .cells #[.int .i64 a1_0, .int .i64 a1_1] 23 (0, 0)) (by (with_reducible repeat (first | refine blk_drewN ?_ _ | refine blk_drew ?_ | refine blk_alloc ?_ _)); exact BK451.out) hb); have n2_ := Aside0.mk (blk_below (g := gb452) (o := .cells #[.int .i64 a2_0, .int .i64 a2_1] 23 (0, 0)) (by (with_reducible repeat (first | refine blk_drewN ?_ _ | refine blk_drew ?_ | refine blk_alloc ?_ _)); exact BK452.out) hb); have n3_ := Aside0.mk (below_step (by repeat (first | (with_reducible first | exact HB.out | apply below_alloc | apply pw_below_drewN | apply below_drew1 | refine below_set ?_ GE450.out | refine below_set ?_ GE451.out | refine below_set ?_ GE452.out) | exact HB.out)) hb); clear BK450; clear BK451; clear BK452; clear HB; have BK450 := n0_; have BK451 := n1_; have BK452 := n2_; have HB := n3_; clear n0_ n1_ n2_ n3_; (try clear hb); (try clear hb2); (try clear hk); (try clear hi)))
         go_ret
         exact ⟨by first | rfl | (simp [errW_none, errW_some] <;> rfl) | (simp [*, errW_none, errW_some] <;> rfl), by repeat (first | (with_reducible first | exact HB.out | apply below_alloc | apply pw_below_drewN | apply below_drew1 | refine below_set ?_ GE450.out | refine below_set ?_ GE451.out | refine below_set ?_ GE452.out) | exact HB.out)⟩
        ·rw [if_neg c76] at H
         have c76b0 : decide (0 ≤ t454) = false := decide_eq_false c76
         clear c76
         replace H : (some (decide (t459 < 0))) = some r := by rw [A74.out] at H; exact H
         obtain rfl := Option.some.inj H
         have hnb83 := NB450_451.out
         have hnc83 := NB451_450.out
         have hnb84 := NB450_452.out
         have hnc84 := NB452_450.out
         have hcz85_0 : wc.cell? ⟨gb450, 0, none⟩ = some (.int .i64 a0_0) := (blk_cell BK450.out 0).trans rfl
         have hcz85_1 : wc.cell? ⟨gb450, 1, none⟩ = some (.int .i64 a0_1) := (blk_cell BK450.out 1).trans rfl
         have hfz85_0 := blk_frozen BK450.out 0
         have hfz85_1 := blk_frozen BK450.out 1
         have hnb86 := NB452_451.out
         have hnc86 := NB451_452.out
         have hcz87_0 : wc.cell? ⟨gb452, 0, none⟩ = some (.int .i64 a2_0) := (blk_cell BK452.out 0).trans rfl
         have hcz87_1 : wc.cell? ⟨gb452, 1, none⟩ = some (.int .i64 a2_1) := (blk_cell BK452.out 1).trans rfl
         have hfz87_0 := blk_frozen BK452.out 0
         have hfz87_1 := blk_frozen BK452.out 1
         go_wp2_with (first | (go_at_call 24; (with_reducible refine (prefix_Compare.calls kj6 a0_0 a0_1 a2_0 a2_1 t459 _ A74.out).mono ?_); rintro e w88 ⟨rfl, hb⟩; have n0_ := Aside0.mk (blk_below (g := gb450) (o := .cells #[.int .i64 a0_0, .int .i64 a0_1] 23 (0, 0)) (by (with_reducible repeat (first | refine blk_drewN ?_ _ | refine blk_drew ?_ | refine blk_alloc ?_ _)); exact BK450.out) hb); have n1_ := Aside0.mk (blk_below (g := gb451) (o := .cells #[.int .i64 a1_0, .int .i64 a1_1] 23 (0, 0)) (by (with_reducible repeat (first | refine blk_drewN ?_ _ | refine blk_drew ?_ | refine blk_alloc ?_ _)); exact BK451.out) hb); have n2_ := Aside0.mk (blk_below (g := gb452) (o := .cells #[.int .i64 a2_0, .int .i64 a2_1] 23 (0, 0)) (by (with_reducible repeat (first | refine blk_drewN ?_ _ | refine blk_drew ?_ | refine blk_alloc ?_ _)); exact BK452.out) hb); have n3_ := Aside0.mk (below_step (by repeat (first | (with_reducible first | exact HB.out | apply below_alloc | apply pw_below_drewN | apply below_drew1 | refine below_set ?_ GE450.out | refine below_set ?_ GE451.out | refine below_set ?_ GE452.out) | exact HB.out)) hb); clear BK450; clear BK451; clear BK452; clear HB; have BK450 := n0_; have BK451 := n1_; have BK452 := n2_; have HB := n3_; clear n0_ n1_ n2_ n3_; (try clear hb); (try clear hb2); (try clear hk); (try clear hi); have hcz89_0 : w88.cell? ⟨gb450, 0, none⟩ = some (.int .i64 a0_0) := (blk_cell BK450.out 0).trans rfl; have hcz89_1 : w88.cell? ⟨gb450, 1, none⟩ = some (.int .i64 a0_1) := (blk_cell BK450.out 1).trans rfl; have hfz89_0 := blk_frozen BK450.out 0; have hfz89_1 := blk_frozen BK450.out 1; have hcz90_0 : w88.cell? ⟨gb452, 0, none⟩ = some (.int .i64 a2_0) := (blk_cell BK452.out 0).trans rfl; have hcz90_1 : w88.cell? ⟨gb452, 1, none⟩ = some (.int .i64 a2_1) := (blk_cell BK452.out 1).trans rfl; have hfz90_0 := blk_frozen BK452.out 0; have hfz90_1 := blk_frozen BK452.out 1) | (go_at_call 24; (with_reducible refine (prefix_Compare.calls kj6 a0_0 a0_1 a2_0 a2_1 t459 _ A74.out).mono ?_); rintro e w91 ⟨rfl, hb⟩; have n0_ := Aside0.mk (blk_below (g := gb450) (o := .cells #[.int .i64 a0_0, .int .i64 a0_1] 23 (0, 0)) (by (with_reducible repeat (first | refine blk_drewN ?_ _ | refine blk_drew ?_ | refine blk_alloc ?_ _)); exact BK450.out) hb); have n1_ := Aside0.mk (blk_below (g := gb451) (o := .cells #[.int .i64 a1_0, .int .i64 a1_1] 23 (0, 0)) (by (with_reducible repeat (first | refine blk_drewN ?_ _ | refine blk_drew ?_ | refine blk_alloc ?_ _)); exact BK451.out) hb); have n2_ := Aside0.mk (blk_below (g := gb452) (o := .cells #[.int .i64 a2_0, .int .i64 a2_1] 23 (0, 0)) (by (with_reducible repeat (first | refine blk_drewN ?_ _ | refine blk_drew ?_ | refine blk_alloc ?_ _)); exact BK452.out) hb); have n3_ := Aside0.mk (below_step (by repeat (first | (with_reducible first | exact HB.out | apply below_alloc | apply pw_below_drewN | apply below_drew1 | refine below_set ?_ GE450.out | refine below_set ?_ GE451.out | refine below_set ?_ GE452.out) | exact HB.out)) hb); clear BK450; clear BK451; clear BK452; clear HB; have BK450 := n0_; have BK451 := n1_; have BK452 := n2_; have HB := n3_; clear n0_ n1_ n2_ n3_; (try clear hb); (try clear hb2); (try clear hk); (try clear hi)))
         go_ret
         exact ⟨by first | rfl | (simp [errW_none, errW_some] <;> rfl) | (simp [*, errW_none, errW_some] <;> rfl), by repeat (first | (with_reducible first | exact HB.out | apply below_alloc | apply pw_below_drewN | apply below_drew1 | refine below_set ?_ GE450.out | refine below_set ?_ GE451.out | refine below_set ?_ GE452.out) | exact HB.out)⟩
       ·rw [if_neg c75] at H
        exact absurd H (by simp)
    ·replace c61 := Bool.eq_false_iff.mpr c61
     subst c61
     have H1 : (none) = some r := by rw [if_neg (show ¬ (false = true) by decide)] at H; exact H
     clear H
     have H := H1
     clear H1
     exact absurd H (by simp)

/-! ### ridgewaylaw02_PrefixMask: function 9 -/
def ridgewaylaw02_PrefixMask.f (k : Nat) (a0 : Int) (a1 : Int) (a2 : Int) : Option (Bool) := (ridgewaylaw02_awake.f k).bind fun t461 => ((prefix_Mask.f a0 a1).bind fun t462 => ((prefix_Mask.f t462 a2).bind fun t463 => (if t461 = true then ((prefix_Mask.f a0 (mn a1 a2)).bind fun t464 => (if t463 = t464 then ((prefix_Sane.f t462 (mx 0 (mn a1 32))).bind fun t465 => (if t465 = true then (if a1 > a2 then ((prefix_Mask.f a0 32).bind fun t466 => (some (t466 == (Go.bits .and .i64 a0 4294967295)))) else ((prefix_Mask.f a0 a2).bind fun t467 => (if t462 ≤ t467 then ((prefix_Mask.f a0 32).bind fun t468 => (some (t468 == (Go.bits .and .i64 a0 4294967295)))) else (none)))) else (none))) else (none))) else (none))))
theorem ridgewaylaw02_PrefixMask.mono : ∀ a0 a1 a2 k, LeO (ridgewaylaw02_PrefixMask.f k a0 a1 a2) (ridgewaylaw02_PrefixMask.f (k + 1) a0 a1 a2) := by
 intro a0 a1 a2 k
 unfold ridgewaylaw02_PrefixMask.f
 repeat' first
   | (with_reducible exact ridgewaylaw02_awake.mono _)
   | (with_reducible exact LeO.refl _)
   | (with_reducible exact LeO.none _)
   | (with_reducible refine LeO.ite ?_ ?_)
   | (with_reducible refine LeO.bind ?_ (fun _ => ?_))
   | exact ridgewaylaw02_awake.mono _
   | exact LeO.none _
   | refine LeO.ite ?_ ?_
   | refine LeO.bind ?_ (fun _ => ?_)
set_option maxHeartbeats 8000000 in
set_option maxRecDepth 100000 in
theorem ridgewaylaw02_PrefixMask.calls (k : Nat) (a0 : Int) (a1 : Int) (a2 : Int) (r : Bool) (w : World) (hT : Tabs w) (h : ridgewaylaw02_PrefixMask.f k a0 a1 a2 = some r) :
  Calls Tryd.prog 9 #[.int .i64 a0, .int .i64 a1, .int .i64 a2] w fun e w' => e = .returned (.bool r) ∧ Below w.heap.size w w' := by
 have hu23 := Tryd.underlying23
 have HT := Aside0.mk hT
 clear hT
 have HB := Aside0.mk (Below.refl w.heap.size w)
 have H : ((ridgewaylaw02_awake.f k).bind fun t461 => ((prefix_Mask.f a0 a1).bind fun t462 => ((prefix_Mask.f t462 a2).bind fun t463 => (if t461 = true then ((prefix_Mask.f a0 (mn a1 a2)).bind fun t464 => (if t463 = t464 then ((prefix_Sane.f t462 (mx 0 (mn a1 32))).bind fun t465 => (if t465 = true then (if a1 > a2 then ((prefix_Mask.f a0 32).bind fun t466 => (some (t466 == (Go.bits .and .i64 a0 4294967295)))) else ((prefix_Mask.f a0 a2).bind fun t467 => (if t462 ≤ t467 then ((prefix_Mask.f a0 32).bind fun t468 => (some (t468 == (Go.bits .and .i64 a0 4294967295)))) else (none)))) else (none))) else (none))) else (none))))) = some r := h
 clear h
 replace H := Option.bind_eq_some_iff.mp H
 obtain ⟨t461, A40, H⟩ := H
 replace H : ((prefix_Mask.f a0 a1).bind fun t462 => ((prefix_Mask.f t462 a2).bind fun t463 => (if t461 = true then ((prefix_Mask.f a0 (mn a1 a2)).bind fun t464 => (if t463 = t464 then ((prefix_Sane.f t462 (mx 0 (mn a1 32))).bind fun t465 => (if t465 = true then (if a1 > a2 then ((prefix_Mask.f a0 32).bind fun t466 => (some (t466 == (Go.bits .and .i64 a0 4294967295)))) else ((prefix_Mask.f a0 a2).bind fun t467 => (if t462 ≤ t467 then ((prefix_Mask.f a0 32).bind fun t468 => (some (t468 == (Go.bits .and .i64 a0 4294967295)))) else (none)))) else (none))) else (none))) else (none)))) = some r := H
 have A4 := Aside0.mk A40
 clear A40
 replace H := Option.bind_eq_some_iff.mp H
 obtain ⟨t462, A50, H⟩ := H
 replace H : ((prefix_Mask.f t462 a2).bind fun t463 => (if t461 = true then ((prefix_Mask.f a0 (mn a1 a2)).bind fun t464 => (if t463 = t464 then ((prefix_Sane.f t462 (mx 0 (mn a1 32))).bind fun t465 => (if t465 = true then (if a1 > a2 then ((prefix_Mask.f a0 32).bind fun t466 => (some (t466 == (Go.bits .and .i64 a0 4294967295)))) else ((prefix_Mask.f a0 a2).bind fun t467 => (if t462 ≤ t467 then ((prefix_Mask.f a0 32).bind fun t468 => (some (t468 == (Go.bits .and .i64 a0 4294967295)))) else (none)))) else (none))) else (none))) else (none))) = some r := H
 have A5 := Aside0.mk A50
 clear A50
 replace H := Option.bind_eq_some_iff.mp H
 obtain ⟨t463, A60, H⟩ := H
 replace H : (if t461 = true then ((prefix_Mask.f a0 (mn a1 a2)).bind fun t464 => (if t463 = t464 then ((prefix_Sane.f t462 (mx 0 (mn a1 32))).bind fun t465 => (if t465 = true then (if a1 > a2 then ((prefix_Mask.f a0 32).bind fun t466 => (some (t466 == (Go.bits .and .i64 a0 4294967295)))) else ((prefix_Mask.f a0 a2).bind fun t467 => (if t462 ≤ t467 then ((prefix_Mask.f a0 32).bind fun t468 => (some (t468 == (Go.bits .and .i64 a0 4294967295)))) else (none)))) else (none))) else (none))) else (none)) = some r := H
 have A6 := Aside0.mk A60
 clear A60
 obtain ⟨ji7, hji7⟩ : ∃ j_ : Int, (mn a1 32) = j_ := ⟨_, rfl⟩
 replace H : (if t461 = true then ((prefix_Mask.f a0 (mn a1 a2)).bind fun t464 => (if t463 = t464 then ((prefix_Sane.f t462 (mx 0 (ji7))).bind fun t465 => (if t465 = true then (if a1 > a2 then ((prefix_Mask.f a0 32).bind fun t466 => (some (t466 == (Go.bits .and .i64 a0 4294967295)))) else ((prefix_Mask.f a0 a2).bind fun t467 => (if t462 ≤ t467 then ((prefix_Mask.f a0 32).bind fun t468 => (some (t468 == (Go.bits .and .i64 a0 4294967295)))) else (none)))) else (none))) else (none))) else (none)) = some r := by first | (rw [hji7] at H; exact H) | (simp only [hji7] at H ⊢; exact H)
 (try rw [hji7] at A4)
 (try rw [hji7] at A5)
 (try rw [hji7] at A6)
 (try (have hji7h : ji7 ≤ 32 := by (rw [← hji7]; unfold mn; (repeat' split) <;> omega)))
 (try (have hji7g : ji7 ≤ 64 := by omega))
 have hji7_ : (if 32 < a1 then 32 else a1) = ji7 := hji7
 obtain ⟨ji8, hji8⟩ : ∃ j_ : Int, (mx 0 (ji7)) = j_ := ⟨_, rfl⟩
 replace H : (if t461 = true then ((prefix_Mask.f a0 (mn a1 a2)).bind fun t464 => (if t463 = t464 then ((prefix_Sane.f t462 (ji8)).bind fun t465 => (if t465 = true then (if a1 > a2 then ((prefix_Mask.f a0 32).bind fun t466 => (some (t466 == (Go.bits .and .i64 a0 4294967295)))) else ((prefix_Mask.f a0 a2).bind fun t467 => (if t462 ≤ t467 then ((prefix_Mask.f a0 32).bind fun t468 => (some (t468 == (Go.bits .and .i64 a0 4294967295)))) else (none)))) else (none))) else (none))) else (none)) = some r := by first | (rw [hji8] at H; exact H) | (simp only [hji8] at H ⊢; exact H)
 (try rw [hji8] at A4)
 (try rw [hji8] at A5)
 (try rw [hji8] at A6)
 have hji8_ : (if 0 < (ji7) then (ji7) else 0) = ji8 := hji8
 by_cases c9 : t461 = true
 ·subst c9
  have H1 : ((prefix_Mask.f a0 (mn a1 a2)).bind fun t464 => (if t463 = t464 then ((prefix_Sane.f t462 (ji8)).bind fun t465 => (if t465 = true then (if a1 > a2 then ((prefix_Mask.f a0 32).bind fun t466 => (some (t466 == (Go.bits .and .i64 a0 4294967295)))) else ((prefix_Mask.f a0 a2).bind fun t467 => (if t462 ≤ t467 then ((prefix_Mask.f a0 32).bind fun t468 => (some (t468 == (Go.bits .and .i64 a0 4294967295)))) else (none)))) else (none))) else (none))) = some r := by rw [if_pos rfl] at H; exact H
  clear H
  have H := H1
  clear H1
  obtain ⟨ji10, hji10⟩ : ∃ j_ : Int, (mn a1 a2) = j_ := ⟨_, rfl⟩
  replace H : ((prefix_Mask.f a0 (ji10)).bind fun t464 => (if t463 = t464 then ((prefix_Sane.f t462 (ji8)).bind fun t465 => (if t465 = true then (if a1 > a2 then ((prefix_Mask.f a0 32).bind fun t466 => (some (t466 == (Go.bits .and .i64 a0 4294967295)))) else ((prefix_Mask.f a0 a2).bind fun t467 => (if t462 ≤ t467 then ((prefix_Mask.f a0 32).bind fun t468 => (some (t468 == (Go.bits .and .i64 a0 4294967295)))) else (none)))) else (none))) else (none))) = some r := by first | (rw [hji10] at H; exact H) | (simp only [hji10] at H ⊢; exact H)
  (try rw [hji10] at A4)
  (try rw [hji10] at A5)
  (try rw [hji10] at A6)
  have hji10_ : (if a2 < a1 then a2 else a1) = ji10 := hji10
  replace H := Option.bind_eq_some_iff.mp H
  obtain ⟨t464, A110, H⟩ := H
  replace H : (if t463 = t464 then ((prefix_Sane.f t462 (ji8)).bind fun t465 => (if t465 = true then (if a1 > a2 then ((prefix_Mask.f a0 32).bind fun t466 => (some (t466 == (Go.bits .and .i64 a0 4294967295)))) else ((prefix_Mask.f a0 a2).bind fun t467 => (if t462 ≤ t467 then ((prefix_Mask.f a0 32).bind fun t468 => (some (t468 == (Go.bits .and .i64 a0 4294967295)))) else (none)))) else (none))) else (none)) = some r := H
  have A11 := Aside0.mk A110
  clear A110
  by_cases c12 : t463 = t464
  ·rw [if_pos c12] at H
   have c12b0 : (t463 == t464) = true := beq_iff_eq.mpr c12
   have c12b1 : (t463 != t464) = false := bne_eq_false_iff_eq.mpr c12
   clear c12
   replace H := Option.bind_eq_some_iff.mp H
   obtain ⟨t465, A130, H⟩ := H
   replace H : (if t465 = true then (if a1 > a2 then ((prefix_Mask.f a0 32).bind fun t466 => (some (t466 == (Go.bits .and .i64 a0 4294967295)))) else ((prefix_Mask.f a0 a2).bind fun t467 => (if t462 ≤ t467 then ((prefix_Mask.f a0 32).bind fun t468 => (some (t468 == (Go.bits .and .i64 a0 4294967295)))) else (none)))) else (none)) = some r := H
   have A13 := Aside0.mk A130
   clear A130
   by_cases c14 : t465 = true
   ·subst c14
    have H1 : (if a1 > a2 then ((prefix_Mask.f a0 32).bind fun t466 => (some (t466 == (Go.bits .and .i64 a0 4294967295)))) else ((prefix_Mask.f a0 a2).bind fun t467 => (if t462 ≤ t467 then ((prefix_Mask.f a0 32).bind fun t468 => (some (t468 == (Go.bits .and .i64 a0 4294967295)))) else (none)))) = some r := by rw [if_pos rfl] at H; exact H
    clear H
    have H := H1
    clear H1
    by_cases c15 : a1 > a2
    ·rw [if_pos c15] at H
     have c15b0 : decide (a2 < a1) = true := decide_eq_true c15
     clear c15
     replace H := Option.bind_eq_some_iff.mp H
     obtain ⟨t466, A160, H⟩ := H
     replace H : (some (t466 == (Go.bits .and .i64 a0 4294967295))) = some r := H
     have A16 := Aside0.mk A160
     clear A160
     obtain rfl := Option.some.inj H
     go_enter Tryd.func9, Tryd.ntmps9
     go_wp2_with (first | ((with_reducible refine gate_callee (f := 10) rfl ?_); refine goesL_ (some 11) rfl rfl Tryd.func10 (by kernel_rfl) rfl #[] rfl (by (try simp only [List.map_toArray, List.map_cons, List.map_nil]); first | done | rfl | (simp only [List.length_drop, List.length_take]; rfl)) ?_; (with_reducible refine (ridgewaylaw02_awake.calls k  true _ ?side1 A4.out).mono ?_); (case side1 => exact Tabs.below HT.out (by repeat (first | (with_reducible first | exact HB.out | apply below_alloc | apply pw_below_drewN | apply below_drew1) | exact HB.out))); rintro e w17 ⟨rfl, hb⟩; refine ⟨_, rfl, ?_⟩; have n0_ := Aside0.mk (below_step (by repeat (first | (with_reducible first | exact HB.out | apply below_alloc | apply pw_below_drewN | apply below_drew1) | exact HB.out)) hb); clear HB; have HB := n0_; clear n0_; (try clear hb); (try clear hb2); (try clear hk); (try clear hi)) | ((with_reducible refine gate_callee (f := 18) rfl ?_); refine goesL_ (some 14) rfl rfl Tryd.func18 (by kernel_rfl) rfl #[.int .i64 a0, .int .i64 a1] rfl (by (try simp only [List.map_toArray, List.map_cons, List.map_nil]); first | done | rfl | (simp only [List.length_drop, List.length_take]; rfl)) ?_; (with_reducible refine (prefix_Mask.calls a0 a1 t462 _ A5.out).mono ?_); rintro e w18 ⟨rfl, hb⟩; refine ⟨_, rfl, ?_⟩; have n0_ := Aside0.mk (below_step (by repeat (first | (with_reducible first | exact HB.out | apply below_alloc | apply pw_below_drewN | apply below_drew1) | exact HB.out)) hb); clear HB; have HB := n0_; clear n0_; (try clear hb); (try clear hb2); (try clear hk); (try clear hi)) | ((with_reducible refine gate_callee (f := 18) rfl ?_); refine goesL_ (some 17) rfl rfl Tryd.func18 (by kernel_rfl) rfl #[.int .i64 t462, .int .i64 a2] rfl (by (try simp only [List.map_toArray, List.map_cons, List.map_nil]); first | done | rfl | (simp only [List.length_drop, List.length_take]; rfl)) ?_; (with_reducible refine (prefix_Mask.calls t462 a2 t463 _ A6.out).mono ?_); rintro e w19 ⟨rfl, hb⟩; refine ⟨_, rfl, ?_⟩; have n0_ := Aside0.mk (below_step (by repeat (first | (with_reducible first | exact HB.out | apply below_alloc | apply pw_below_drewN | apply below_drew1) | exact HB.out)) hb); clear HB; have HB := n0_; clear n0_; (try clear hb); (try clear hb2); (try clear hk); (try clear hi)) | (go_at_call 18; (with_reducible refine (prefix_Mask.calls a0 ji10 t464 _ A11.out).mono ?_); rintro e w20 ⟨rfl, hb⟩; have n0_ := Aside0.mk (below_step (by repeat (first | (with_reducible first | exact HB.out | apply below_alloc | apply pw_below_drewN | apply below_drew1) | exact HB.out)) hb); clear HB; have HB := n0_; clear n0_; (try clear hb); (try clear hb2); (try clear hk); (try clear hi)) | (go_at_call 20; (with_reducible refine (prefix_Sane.calls t462 ji8 true _ A13.out).mono ?_); rintro e w21 ⟨rfl, hb⟩; have n0_ := Aside0.mk (below_step (by repeat (first | (with_reducible first | exact HB.out | apply below_alloc | apply pw_below_drewN | apply below_drew1) | exact HB.out)) hb); clear HB; have HB := n0_; clear n0_; (try clear hb); (try clear hb2); (try clear hk); (try clear hi)) | (go_at_call 18; (with_reducible refine (prefix_Mask.calls a0 32 t466 _ A16.out).mono ?_); rintro e w22 ⟨rfl, hb⟩; have n0_ := Aside0.mk (below_step (by repeat (first | (with_reducible first | exact HB.out | apply below_alloc | apply pw_below_drewN | apply below_drew1) | exact HB.out)) hb); clear HB; have HB := n0_; clear n0_; (try clear hb); (try clear hb2); (try clear hk); (try clear hi)))
     go_ret
     exact ⟨by first | rfl | (simp [errW_none, errW_some] <;> rfl) | (simp only [← hji7, ← hji8, ← hji10]; first | rfl | (simp [errW_none, errW_some] <;> rfl)) | (simp [*, errW_none, errW_some] <;> rfl), by repeat (first | (with_reducible first | exact HB.out | apply below_alloc | apply pw_below_drewN | apply below_drew1) | exact HB.out)⟩
    ·rw [if_neg c15] at H
     have c15b0 : decide (a2 < a1) = false := decide_eq_false c15
     clear c15
     replace H := Option.bind_eq_some_iff.mp H
     obtain ⟨t467, A230, H⟩ := H
     replace H : (if t462 ≤ t467 then ((prefix_Mask.f a0 32).bind fun t468 => (some (t468 == (Go.bits .and .i64 a0 4294967295)))) else (none)) = some r := H
     have A23 := Aside0.mk A230
     clear A230
     by_cases c24 : t462 ≤ t467
     ·rw [if_pos c24] at H
      have c24b0 : decide (t462 ≤ t467) = true := decide_eq_true c24
      clear c24
      replace H := Option.bind_eq_some_iff.mp H
      obtain ⟨t468, A250, H⟩ := H
      replace H : (some (t468 == (Go.bits .and .i64 a0 4294967295))) = some r := H
      have A25 := Aside0.mk A250
      clear A250
      obtain rfl := Option.some.inj H
      go_enter Tryd.func9, Tryd.ntmps9
      go_wp2_with (first | ((with_reducible refine gate_callee (f := 10) rfl ?_); refine goesL_ (some 11) rfl rfl Tryd.func10 (by kernel_rfl) rfl #[] rfl (by (try simp only [List.map_toArray, List.map_cons, List.map_nil]); first | done | rfl | (simp only [List.length_drop, List.length_take]; rfl)) ?_; (with_reducible refine (ridgewaylaw02_awake.calls k  true _ ?side1 A4.out).mono ?_); (case side1 => exact Tabs.below HT.out (by repeat (first | (with_reducible first | exact HB.out | apply below_alloc | apply pw_below_drewN | apply below_drew1) | exact HB.out))); rintro e w26 ⟨rfl, hb⟩; refine ⟨_, rfl, ?_⟩; have n0_ := Aside0.mk (below_step (by repeat (first | (with_reducible first | exact HB.out | apply below_alloc | apply pw_below_drewN | apply below_drew1) | exact HB.out)) hb); clear HB; have HB := n0_; clear n0_; (try clear hb); (try clear hb2); (try clear hk); (try clear hi)) | ((with_reducible refine gate_callee (f := 18) rfl ?_); refine goesL_ (some 14) rfl rfl Tryd.func18 (by kernel_rfl) rfl #[.int .i64 a0, .int .i64 a1] rfl (by (try simp only [List.map_toArray, List.map_cons, List.map_nil]); first | done | rfl | (simp only [List.length_drop, List.length_take]; rfl)) ?_; (with_reducible refine (prefix_Mask.calls a0 a1 t462 _ A5.out).mono ?_); rintro e w27 ⟨rfl, hb⟩; refine ⟨_, rfl, ?_⟩; have n0_ := Aside0.mk (below_step (by repeat (first | (with_reducible first | exact HB.out | apply below_alloc | apply pw_below_drewN | apply below_drew1) | exact HB.out)) hb); clear HB; have HB := n0_; clear n0_; (try clear hb); (try clear hb2); (try clear hk); (try clear hi)) | ((with_reducible refine gate_callee (f := 18) rfl ?_); refine goesL_ (some 17) rfl rfl Tryd.func18 (by kernel_rfl) rfl #[.int .i64 t462, .int .i64 a2] rfl (by (try simp only [List.map_toArray, List.map_cons, List.map_nil]); first | done | rfl | (simp only [List.length_drop, List.length_take]; rfl)) ?_; (with_reducible refine (prefix_Mask.calls t462 a2 t463 _ A6.out).mono ?_); rintro e w28 ⟨rfl, hb⟩; refine ⟨_, rfl, ?_⟩; have n0_ := Aside0.mk (below_step (by repeat (first | (with_reducible first | exact HB.out | apply below_alloc | apply pw_below_drewN | apply below_drew1) | exact HB.out)) hb); clear HB; have HB := n0_; clear n0_; (try clear hb); (try clear hb2); (try clear hk); (try clear hi)) | (go_at_call 18; (with_reducible refine (prefix_Mask.calls a0 ji10 t464 _ A11.out).mono ?_); rintro e w29 ⟨rfl, hb⟩; have n0_ := Aside0.mk (below_step (by repeat (first | (with_reducible first | exact HB.out | apply below_alloc | apply pw_below_drewN | apply below_drew1) | exact HB.out)) hb); clear HB; have HB := n0_; clear n0_; (try clear hb); (try clear hb2); (try clear hk); (try clear hi)) | (go_at_call 20; (with_reducible refine (prefix_Sane.calls t462 ji8 true _ A13.out).mono ?_); rintro e w30 ⟨rfl, hb⟩; have n0_ := Aside0.mk (below_step (by repeat (first | (with_reducible first | exact HB.out | apply below_alloc | apply pw_below_drewN | apply below_drew1) | exact HB.out)) hb); clear HB; have HB := n0_; clear n0_; (try clear hb); (try clear hb2); (try clear hk); (try clear hi)) | (go_at_call 18; (with_reducible refine (prefix_Mask.calls a0 a2 t467 _ A23.out).mono ?_); rintro e w31 ⟨rfl, hb⟩; have n0_ := Aside0.mk (below_step (by repeat (first | (with_reducible first | exact HB.out | apply below_alloc | apply pw_below_drewN | apply below_drew1) | exact HB.out)) hb); clear HB; have HB := n0_; clear n0_; (try clear hb); (try clear hb2); (try clear hk); (try clear hi)) | (go_at_call 18; (with_reducible refine (prefix_Mask.calls a0 32 t468 _ A25.out).mono ?_); rintro e w32 ⟨rfl, hb⟩; have n0_ := Aside0.mk (below_step (by repeat (first | (with_reducible first | exact HB.out | apply below_alloc | apply pw_below_drewN | apply below_drew1) | exact HB.out)) hb); clear HB; have HB := n0_; clear n0_; (try clear hb); (try clear hb2); (try clear hk); (try clear hi)))
      go_ret
      exact ⟨by first | rfl | (simp [errW_none, errW_some] <;> rfl) | (simp only [← hji7, ← hji8, ← hji10]; first | rfl | (simp [errW_none, errW_some] <;> rfl)) | (simp [*, errW_none, errW_some] <;> rfl), by repeat (first | (with_reducible first | exact HB.out | apply below_alloc | apply pw_below_drewN | apply below_drew1) | exact HB.out)⟩
     ·rw [if_neg c24] at H
      exact absurd H (by simp)
   ·replace c14 := Bool.eq_false_iff.mpr c14
    subst c14
    have H1 : (none) = some r := by rw [if_neg (show ¬ (false = true) by decide)] at H; exact H
    clear H
    have H := H1
    clear H1
    exact absurd H (by simp)
  ·rw [if_neg c12] at H
   exact absurd H (by simp)
 ·replace c9 := Bool.eq_false_iff.mpr c9
  subst c9
  have H1 : (none) = some r := by rw [if_neg (show ¬ (false = true) by decide)] at H; exact H
  clear H
  have H := H1
  clear H1
  exact absurd H (by simp)

end Go.Proofs.YtckjfplocmbcmaaDoor.PAll
