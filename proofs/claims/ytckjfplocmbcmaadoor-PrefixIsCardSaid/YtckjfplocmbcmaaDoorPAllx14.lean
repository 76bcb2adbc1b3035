-- Written by a program of this session's (wip/tools), out of the translation. Lean checks it.
import Derived.Test.YtckjfplocmbcmaaDoorPAllx0
import Derived.Test.YtckjfplocmbcmaaDoorPAllx1
import Derived.Test.YtckjfplocmbcmaaDoorPAllx2
import Derived.Test.YtckjfplocmbcmaaDoorPAllx3
import Derived.Test.YtckjfplocmbcmaaDoorPAllx4
import Derived.Test.YtckjfplocmbcmaaDoorPAllx5
import Derived.Test.YtckjfplocmbcmaaDoorPAllx6
import Derived.Test.YtckjfplocmbcmaaDoorPAllx7
import Derived.Test.YtckjfplocmbcmaaDoorPAllx8
import Derived.Test.YtckjfplocmbcmaaDoorPAllx9
import Derived.Test.YtckjfplocmbcmaaDoorPAllx10
import Derived.Test.YtckjfplocmbcmaaDoorPAllx11
import Derived.Test.YtckjfplocmbcmaaDoorPAllx12
import Derived.Test.YtckjfplocmbcmaaDoorPAllx13
namespace Go.Proofs.YtckjfplocmbcmaaDoor.PAll
open Go.RowKit Go.Proofs.YtckjfplocmbcmaaDoorW.PrintWords Go.Proofs.YtckjfplocmbcmaaDoorW.PrintLast Go.Proofs.YtckjfplocmbcmaaDoorW.PrintMore
attribute [local go_sem] max2_int min2_int max_two min_two max_three min_three max_four min_four   -- for this text's walks alone
set_option linter.unusedVariables false
set_option linter.unusedSimpArgs false

attribute [local go_sem high] eqA23
theorem q14a {α : Type} (l : List α) (i : Nat) (a : α) : l.toArray.setIfInBounds i a = (l.set i a).toArray := List.setIfInBounds_toArray ..
theorem q14b {α : Type} (x a : α) (l : List α) : (x :: l).set 0 a = a :: l := rfl
theorem q14c {α : Type} (x a : α) (l : List α) (i : Nat) : (x :: l).set (i + 1) a = x :: l.set i a := rfl
/-! ### ridgewaylaw02_PrefixIs: function 3 -/
mutual
def ridgewaylaw02_PrefixIs.j0 : Nat → Int → List Int → ByteArray → Bool → Bool → Int → Int → Int → Int → Option (Bool)
 | 0, _, _, _, _, _, _, _, _, _ => none
 | k + 1, x2, x3, x4, x11, x34, x298000, x298001, x299000, x299001 => if x34 = true then (some x11) else ((prefix_Get.f k x3).bind fun bt300 => ((ridgewayref02_Get.f k x3).bind fun bt307 => ((prefix_All.f k x3).bind fun bt314 => ((ridgewayref02_All.f k x3).bind fun bt318 => ((prefix_Read.f k x4).bind fun bt322 => ((ridgewayref02_Read.f k x4).bind fun bt326 => (if (!(bt300.1 == bt307.1) || (!(bt300.2.1 == bt307.2.1))) = true then (ridgewaylaw02_PrefixIs.j1 k x2 x3 x11 true x298000 x298001 x299000 x299001) else (if (strOfNums bt300.2.2.1).toList = (strOfNums bt307.2.2.1).toList then (if (bt300.2.2.2 != bt307.2.2.2) = true then (ridgewaylaw02_PrefixIs.j1 k x2 x3 x11 true x298000 x298001 x299000 x299001) else ((ridgewayref02_Same.f k bt314.1 bt318.1).bind fun t330 => (if t330 = true then (if (bt314.2 != bt318.2) = true then (ridgewaylaw02_PrefixIs.j1 k x2 x3 x11 true x298000 x298001 x299000 x299001) else (if (!(bt322.1 == bt326.1) || (!(bt322.2.1 == bt326.2.1))) = true then (ridgewaylaw02_PrefixIs.j1 k x2 x3 x11 true x298000 x298001 x299000 x299001) else (ridgewaylaw02_PrefixIs.j1 k x2 x3 x11 (bt322.2.2 != bt326.2.2) x298000 x298001 x299000 x299001))) else (ridgewaylaw02_PrefixIs.j1 k x2 x3 x11 true x298000 x298001 x299000 x299001)))) else (ridgewaylaw02_PrefixIs.j1 k x2 x3 x11 true x298000 x298001 x299000 x299001)))))))))
def ridgewaylaw02_PrefixIs.j1 : Nat → Int → List Int → Bool → Bool → Int → Int → Int → Int → Option (Bool)
 | 0, _, _, _, _, _, _, _, _ => none
 | k + 1, x2, x3, x11, x103, x298000, x298001, x299000, x299001 => if x103 = true then (none) else (if x11 = true then ((prefix_Mask.f x298000 x2).bind fun t331 => ((ridgewayref02_Mask.f k x298000 x2).bind fun t332 => (if t331 = t332 then ((prefix_Sane.f x298000 x298001).bind fun t333 => ((ridgewayref02_Sane.f k x298000 x298001).bind fun t334 => (if (t333 == t334) = true then ((prefix_Has.f x298000 x298001 x299000 x299001).bind fun t335 => ((ridgewayref02_Has.f k x298000 x298001 x299000 x299001).bind fun t336 => (if (t335 == t336) = true then ((prefix_Compare.f k x298000 x298001 x299000 x299001).bind fun t337 => ((ridgewayref02_Compare.f k x298000 x298001 x299000 x299001).bind fun t338 => (if t337 = t338 then ((prefix_Put.f k x3 x298000 x298001).bind fun t339 => ((ridgewayref02_Put.f k x3 x298000 x298001).bind fun t342 => (if (strOfNums t339).toList = (strOfNums t342).toList then ((prefix_Text.f k x298000 x298001).bind fun t345 => ((ridgewayref02_Text.f k x298000 x298001).bind fun t346 => (some (t345.toList == t346.toList)))) else (none)))) else (none)))) else (none)))) else (none)))) else (none)))) else (none))
end
def ridgewaylaw02_PrefixIs.f (k : Nat) (a0_0 : Int) (a0_1 : Int) (a1_0 : Int) (a1_1 : Int) (a2 : Int) (l3 : List Int) (a4 : ByteArray) : Option (Bool) := (ridgewaylaw02_awake.f k).bind fun t299 => (if (l3.length : Int) > 300 then (ridgewaylaw02_PrefixIs.j0 k a2 l3 a4 t299 true a0_0 a0_1 a1_0 a1_1) else (ridgewaylaw02_PrefixIs.j0 k a2 l3 a4 t299 (decide ((a4.size : Int) > 60)) a0_0 a0_1 a1_0 a1_1))
theorem ridgewaylaw02_PrefixIs.mono_l : ∀ k, (∀ y0 y1 y2 y3 y4 y5 y6 y7 y8, LeO (ridgewaylaw02_PrefixIs.j0 k y0 y1 y2 y3 y4 y5 y6 y7 y8) (ridgewaylaw02_PrefixIs.j0 (k + 1) y0 y1 y2 y3 y4 y5 y6 y7 y8)) ∧ (∀ y0 y1 y2 y3 y4 y5 y6 y7, LeO (ridgewaylaw02_PrefixIs.j1 k y0 y1 y2 y3 y4 y5 y6 y7) (ridgewaylaw02_PrefixIs.j1 (k + 1) y0 y1 y2 y3 y4 y5 y6 y7))
 | 0 => ⟨fun _ _ _ _ _ _ _ _ _ r h => by simp [ridgewaylaw02_PrefixIs.j0] at h, fun _ _ _ _ _ _ _ _ r h => by simp [ridgewaylaw02_PrefixIs.j1] at h⟩
 | k + 1 => by
  obtain ⟨ih0, ih1⟩ := ridgewaylaw02_PrefixIs.mono_l k
  refine ⟨?_, ?_⟩
  ·intro y0 y1 y2 y3 y4 y5 y6 y7 y8
   unfold ridgewaylaw02_PrefixIs.j0
   repeat' first
   | (with_reducible exact ih0 _ _ _ _ _ _ _ _ _)
   | (with_reducible exact ih1 _ _ _ _ _ _ _ _)
   | (with_reducible exact prefix_All.mono _ _)
   | (with_reducible exact prefix_Compare.mono _ _ _ _ _)
   | (with_reducible exact prefix_Get.mono _ _)
   | (with_reducible exact prefix_Put.mono _ _ _ _)
   | (with_reducible exact prefix_Read.mono _ _)
   | (with_reducible exact prefix_Text.mono _ _ _)
   | (with_reducible exact ridgewaylaw02_awake.mono _)
   | (with_reducible exact ridgewayref02_All.mono _ _)
   | (with_reducible exact ridgewayref02_Compare.mono _ _ _ _ _)
   | (with_reducible exact ridgewayref02_Get.mono _ _)
   | (with_reducible exact ridgewayref02_Has.mono _ _ _ _ _)
   | (with_reducible exact ridgewayref02_Mask.mono _ _ _)
   | (with_reducible exact ridgewayref02_Put.mono _ _ _ _)
   | (with_reducible exact ridgewayref02_Read.mono _ _)
   | (with_reducible exact ridgewayref02_Same.mono _ _ _)
   | (with_reducible exact ridgewayref02_Sane.mono _ _ _)
   | (with_reducible exact ridgewayref02_Text.mono _ _ _)
   | (with_reducible exact LeO.refl _)
   | (with_reducible exact LeO.none _)
   | (with_reducible refine LeO.ite ?_ ?_)
   | (with_reducible refine LeO.bind ?_ (fun _ => ?_))
   | exact ih0 _ _ _ _ _ _ _ _ _
   | exact ih1 _ _ _ _ _ _ _ _
   | exact prefix_All.mono _ _
   | exact prefix_Compare.mono _ _ _ _ _
   | exact prefix_Get.mono _ _
   | exact prefix_Put.mono _ _ _ _
   | exact prefix_Read.mono _ _
   | exact prefix_Text.mono _ _ _
   | exact ridgewaylaw02_awake.mono _
   | exact ridgewayref02_All.mono _ _
   | exact ridgewayref02_Compare.mono _ _ _ _ _
   | exact ridgewayref02_Get.mono _ _
   | exact ridgewayref02_Has.mono _ _ _ _ _
   | exact ridgewayref02_Mask.mono _ _ _
   | exact ridgewayref02_Put.mono _ _ _ _
   | exact ridgewayref02_Read.mono _ _
   | exact ridgewayref02_Same.mono _ _ _
   | exact ridgewayref02_Sane.mono _ _ _
   | exact ridgewayref02_Text.mono _ _ _
   | exact LeO.none _
   | refine LeO.ite ?_ ?_
   | refine LeO.bind ?_ (fun _ => ?_)
  ·intro y0 y1 y2 y3 y4 y5 y6 y7
   unfold ridgewaylaw02_PrefixIs.j1
   repeat' first
   | (with_reducible exact ih0 _ _ _ _ _ _ _ _ _)
   | (with_reducible exact ih1 _ _ _ _ _ _ _ _)
   | (with_reducible exact prefix_All.mono _ _)
   | (with_reducible exact prefix_Compare.mono _ _ _ _ _)
   | (with_reducible exact prefix_Get.mono _ _)
   | (with_reducible exact prefix_Put.mono _ _ _ _)
   | (with_reducible exact prefix_Read.mono _ _)
   | (with_reducible exact prefix_Text.mono _ _ _)
   | (with_reducible exact ridgewaylaw02_awake.mono _)
   | (with_reducible exact ridgewayref02_All.mono _ _)
   | (with_reducible exact ridgewayref02_Compare.mono _ _ _ _ _)
   | (with_reducible exact ridgewayref02_Get.mono _ _)
   | (with_reducible exact ridgewayref02_Has.mono _ _ _ _ _)
   | (with_reducible exact ridgewayref02_Mask.mono _ _ _)
   | (with_reducible exact ridgewayref02_Put.mono _ _ _ _)
   | (with_reducible exact ridgewayref02_Read.mono _ _)
   | (with_reducible exact ridgewayref02_Same.mono _ _ _)
   | (with_reducible exact ridgewayref02_Sane.mono _ _ _)
   | (with_reducible exact ridgewayref02_Text.mono _ _ _)
   | (with_reducible exact LeO.refl _)
   | (with_reducible exact LeO.none _)
   | (with_reducible refine LeO.ite ?_ ?_)
   | (with_reducible refine LeO.bind ?_ (fun _ => ?_))
   | exact ih0 _ _ _ _ _ _ _ _ _
   | exact ih1 _ _ _ _ _ _ _ _
   | exact prefix_All.mono _ _
   | exact prefix_Compare.mono _ _ _ _ _
   | exact prefix_Get.mono _ _
   | exact prefix_Put.mono _ _ _ _
   | exact prefix_Read.mono _ _
   | exact prefix_Text.mono _ _ _
   | exact ridgewaylaw02_awake.mono _
   | exact ridgewayref02_All.mono _ _
   | exact ridgewayref02_Compare.mono _ _ _ _ _
   | exact ridgewayref02_Get.mono _ _
   | exact ridgewayref02_Has.mono _ _ _ _ _
   | exact ridgewayref02_Mask.mono _ _ _
   | exact ridgewayref02_Put.mono _ _ _ _
   | exact ridgewayref02_Read.mono _ _
   | exact ridgewayref02_Same.mono _ _ _
   | exact ridgewayref02_Sane.mono _ _ _
   | exact ridgewayref02_Text.mono _ _ _
   | exact LeO.none _
   | refine LeO.ite ?_ ?_
   | refine LeO.bind ?_ (fun _ => ?_)
theorem ridgewaylaw02_PrefixIs.mono : ∀ a0 a1 a2 a3 a4 a5 a6 k, LeO (ridgewaylaw02_PrefixIs.f k a0 a1 a2 a3 a4 a5 a6) (ridgewaylaw02_PrefixIs.f (k + 1) a0 a1 a2 a3 a4 a5 a6) := by
 intro a0 a1 a2 a3 a4 a5 a6 k
 obtain ⟨ih0, ih1⟩ := ridgewaylaw02_PrefixIs.mono_l k
 unfold ridgewaylaw02_PrefixIs.f
 repeat' first
   | (with_reducible exact ih0 _ _ _ _ _ _ _ _ _)
   | (with_reducible exact ih1 _ _ _ _ _ _ _ _)
   | (with_reducible exact prefix_All.mono _ _)
   | (with_reducible exact prefix_Compare.mono _ _ _ _ _)
   | (with_reducible exact prefix_Get.mono _ _)
   | (with_reducible exact prefix_Put.mono _ _ _ _)
   | (with_reducible exact prefix_Read.mono _ _)
   | (with_reducible exact prefix_Text.mono _ _ _)
   | (with_reducible exact ridgewaylaw02_awake.mono _)
   | (with_reducible exact ridgewayref02_All.mono _ _)
   | (with_reducible exact ridgewayref02_Compare.mono _ _ _ _ _)
   | (with_reducible exact ridgewayref02_Get.mono _ _)
   | (with_reducible exact ridgewayref02_Has.mono _ _ _ _ _)
   | (with_reducible exact ridgewayref02_Mask.mono _ _ _)
   | (with_reducible exact ridgewayref02_Put.mono _ _ _ _)
   | (with_reducible exact ridgewayref02_Read.mono _ _)
   | (with_reducible exact ridgewayref02_Same.mono _ _ _)
   | (with_reducible exact ridgewayref02_Sane.mono _ _ _)
   | (with_reducible exact ridgewayref02_Text.mono _ _ _)
   | (with_reducible exact LeO.refl _)
   | (with_reducible exact LeO.none _)
   | (with_reducible refine LeO.ite ?_ ?_)
   | (with_reducible refine LeO.bind ?_ (fun _ => ?_))
   | exact ih0 _ _ _ _ _ _ _ _ _
   | exact ih1 _ _ _ _ _ _ _ _
   | exact prefix_All.mono _ _
   | exact prefix_Compare.mono _ _ _ _ _
   | exact prefix_Get.mono _ _
   | exact prefix_Put.mono _ _ _ _
   | exact prefix_Read.mono _ _
   | exact prefix_Text.mono _ _ _
   | exact ridgewaylaw02_awake.mono _
   | exact ridgewayref02_All.mono _ _
   | exact ridgewayref02_Compare.mono _ _ _ _ _
   | exact ridgewayref02_Get.mono _ _
   | exact ridgewayref02_Has.mono _ _ _ _ _
   | exact ridgewayref02_Mask.mono _ _ _
   | exact ridgewayref02_Put.mono _ _ _ _
   | exact ridgewayref02_Read.mono _ _
   | exact ridgewayref02_Same.mono _ _ _
   | exact ridgewayref02_Sane.mono _ _ _
   | exact ridgewayref02_Text.mono _ _ _
   | exact LeO.none _
   | refine LeO.ite ?_ ?_
   | refine LeO.bind ?_ (fun _ => ?_)
def ridgewaylaw02_PrefixIs.T12 : Bool × List (List Nat × List Nat) := (true, [([], []), ([0], [0]), ([1], [1]), ([2, 1], [1, 2]), ([1], [1]), ([3, 4, 1, 1], [1, 3, 4]), ([1], [1]), ([6, 1], [1, 6]), ([1], [1]), ([7, 8, 5, 1], [1, 7, 8]), ([5, 9, 1], [1, 5, 9]), ([1, 10], [1, 10]), ([11, 9], [11]), ([12], [12]), ([13, 12, 12], [12, 13]), ([12], [12]), ([15, 14, 12], [12, 15]), ([14, 16, 12], [12, 14, 16]), ([12, 17], [12, 17]), ([18, 16], [18]), ([19], [19]), ([19], [19]), ([20, 21, 19, 19], [19, 20, 21]), ([19], [19]), ([19], [19]), ([23, 24, 22, 19], [19, 23, 24]), ([22, 25, 19], [19, 22, 25]), ([19, 26], [19, 26]), ([27, 25], [27]), ([28], [28]), ([28], [28]), ([29, 30, 28, 28], [28, 29, 30]), ([28], [28]), ([28], [28]), ([32, 33, 31, 28], [28, 32, 33]), ([31, 34, 28], [28, 31, 34]), ([28, 35], [28, 35]), ([36, 34], [36]), ([37], [37]), ([37], [37]), ([38, 39, 37, 37], [37, 38, 39]), ([40, 37], [37, 40]), ([37], [37]), ([37], [37]), ([42, 43, 40, 37], [37, 42, 43]), ([44, 37], [37, 44]), ([41, 45, 37], [37, 41, 45]), ([37, 46], [37, 46]), ([47, 44], [47]), ([48], [48]), ([49, 48, 48], [48, 49]), ([48], [48]), ([51, 50, 48], [48, 51]), ([50, 52, 48], [48, 50, 52]), ([48, 53], [48, 53]), ([54, 52, 0, 1, 2, 3, 4, 5, 6, 7, 8, 9, 10, 11, 12, 13, 14, 15, 16, 17, 18, 19, 20, 21, 22, 23, 24, 25, 26, 27, 28, 29, 30, 31, 32, 33, 34, 35, 36, 37, 38, 39, 40, 41, 42, 43, 44, 45, 46, 47, 48, 49, 50, 51, 52, 53, 54], [54])])
def ridgewaylaw02_PrefixIs.B12 : List Nat := [0, 1, 3, 7, 3, 31, 3, 67, 3, 511, 1023, 2047, 4095, 8191, 16383, 8191, 65535, 131071, 262143, 524287, 1048575, 1048575, 4194303, 1048575, 1048575, 33554431, 67108863, 134217727, 268435455, 536870911, 536870911, 2147483647, 536870911, 536870911, 17179869183, 34359738367, 68719476735, 137438953471, 274877906943, 274877906943, 1099511627775, 2199023255551, 274877906943, 274877906943, 15393162788863, 32985348833279, 70368744177663, 140737488355327, 281474976710655, 562949953421311, 1125899906842623, 562949953421311, 4503599627370495, 9007199254740991, 18014398509481983, 36028797018963967]
theorem ridgewaylaw02_PrefixIs.tab12 : rtab .any (opsOf Tryd.f3 12) = ridgewaylaw02_PrefixIs.T12 := by kernel_rfl
theorem ridgewaylaw02_PrefixIs.bits12 : waitsOk ridgewaylaw02_PrefixIs.T12.2 ridgewaylaw02_PrefixIs.B12 = true := by kernel_rfl
set_option maxHeartbeats 8000000 in
set_option maxRecDepth 100000 in
theorem ridgewaylaw02_PrefixIs.calls (k : Nat) (a0_0 : Int) (a0_1 : Int) (a1_0 : Int) (a1_1 : Int) (a2 : Int) (A3 : Option Addr) (c3 : Nat) (l3 : List Int) (a4 : ByteArray) (r : Bool) (w : World) (hr3 : Kd.C (Kd.int .u8) w A3 l3.length l3) (hc3 : l3.length ≤ c3) (hT : Tabs w) (h : ridgewaylaw02_PrefixIs.f k a0_0 a0_1 a1_0 a1_1 a2 l3 a4 = some r) :
  Calls Tryd.prog 3 #[.agg #[.int .i64 a0_0, .int .i64 a0_1], .agg #[.int .i64 a1_0, .int .i64 a1_1], .int .i64 a2, .slice A3 l3.length c3, .string a4] w fun e w' => e = .returned (.bool r) ∧ Below w.heap.size w w' := by
 have hu23 := Tryd.underlying23
 have HR3 := Aside0.mk hr3
 have HC3 := Aside0.mk hc3
 clear hr3 hc3
 have HT := Aside0.mk hT
 clear hT
 have HB := Aside0.mk (Below.refl w.heap.size w)
 have H : ((ridgewaylaw02_awake.f k).bind fun t299 => (if (l3.length : Int) > 300 then (ridgewaylaw02_PrefixIs.j0 k a2 l3 a4 t299 true a0_0 a0_1 a1_0 a1_1) else (ridgewaylaw02_PrefixIs.j0 k a2 l3 a4 t299 (decide ((a4.size : Int) > 60)) a0_0 a0_1 a1_0 a1_1))) = some r := h
 clear h
 replace H := Option.bind_eq_some_iff.mp H
 obtain ⟨t299, A60, H⟩ := H
 replace H : (if (l3.length : Int) > 300 then (ridgewaylaw02_PrefixIs.j0 k a2 l3 a4 t299 true a0_0 a0_1 a1_0 a1_1) else (ridgewaylaw02_PrefixIs.j0 k a2 l3 a4 t299 (decide ((a4.size : Int) > 60)) a0_0 a0_1 a1_0 a1_1)) = some r := H
 have A6 := Aside0.mk A60
 clear A60
 have HC7 := Aside0.mk H
 clear H
 go_enter Tryd.func3, Tryd.ntmps3
 go_upto_region 2 with (first | ((with_reducible refine gate_dst (N := 5) rfl ?_); (try (refine gate_guard (by rfl) ?_; dsimp only)); refine box_event ?hg (N := 5) ?hd (cs := #[.int .i64 a0_0, .int .i64 a0_1]) (t := 23) ?hr ?_; (case hd => rfl); (case hg => rfl); (case hr => first | (go_simp; done) | (go_simp; rfl)); intro gb297 hg w8 hbox hb; have n0_ := Aside0.mk (below_step (by repeat (first | (with_reducible first | exact HB.out | apply below_alloc | apply pw_below_drewN | apply below_drew1) | exact HB.out)) hb); have n1_ := Aside0.mk (hbox); have n2_ := Aside0.mk ((by rw [hg]; exact (below_size (by repeat (first | (with_reducible first | exact HB.out | apply below_alloc | apply pw_below_drewN | apply below_drew1) | exact HB.out))) : w.heap.size ≤ gb297)); have n3_ := Aside0.mk ((by rw [hg]; exact (below_size (by repeat (first | (with_reducible first | exact HB.out | apply below_alloc | apply pw_below_drewN | apply below_drew1) | exact HB.out))) : w.heap.size ≤ gb297)); clear HB; have HB := n0_; have BK297 := n1_; have GW297 := n2_; have GE297 := n3_; clear n0_ n1_ n2_ n3_; clear hb hbox hg) | ((with_reducible refine gate_dst (N := 6) rfl ?_); (try (refine gate_guard (by rfl) ?_; dsimp only)); refine box_event ?hg (N := 6) ?hd (cs := #[.int .i64 a1_0, .int .i64 a1_1]) (t := 23) ?hr ?_; (case hd => rfl); (case hg => rfl); (case hr => first | (go_simp; done) | (go_simp; rfl)); intro gb298 hg w9 hbox hb; have n0_ := Aside0.mk (blk_below (g := gb297) (o := .cells #[.int .i64 a0_0, .int .i64 a0_1] 23 (0, 0)) (by (with_reducible repeat (first | refine blk_drewN ?_ _ | refine blk_drew ?_ | refine blk_alloc ?_ _)); exact BK297.out) hb); have n1_ := Aside0.mk (below_step (by repeat (first | (with_reducible first | exact HB.out | apply below_alloc | apply pw_below_drewN | apply below_drew1 | refine below_set ?_ GE297.out) | exact HB.out)) hb); have n2_ := Aside0.mk (hbox); have n3_ := Aside0.mk ((by rw [hg]; exact (below_size (by repeat (first | (with_reducible first | exact HB.out | apply below_alloc | apply pw_below_drewN | apply below_drew1 | refine below_set ?_ GE297.out) | exact HB.out))) : w.heap.size ≤ gb298)); have n4_ := Aside0.mk ((by rw [hg]; exact (below_size (by repeat (first | (with_reducible first | exact HB.out | apply below_alloc | apply pw_below_drewN | apply below_drew1 | refine below_set ?_ GE297.out) | exact HB.out))) : w.heap.size ≤ gb298)); have n5_ := Aside0.mk ((by rw [hg]; exact Nat.ne_of_lt (blk_lt (g := gb297) (o := .cells #[.int .i64 a0_0, .int .i64 a0_1] 23 (0, 0)) (by (with_reducible repeat (first | refine blk_drewN ?_ _ | refine blk_drew ?_ | refine blk_alloc ?_ _)); exact BK297.out)) : gb297 ≠ gb298)); have n6_ := Aside0.mk ((by rw [hg]; exact Nat.ne_of_gt (blk_lt (g := gb297) (o := .cells #[.int .i64 a0_0, .int .i64 a0_1] 23 (0, 0)) (by (with_reducible repeat (first | refine blk_drewN ?_ _ | refine blk_drew ?_ | refine blk_alloc ?_ _)); exact BK297.out)) : gb298 ≠ gb297)); clear BK297; clear HB; have BK297 := n0_; have HB := n1_; have BK298 := n2_; have GW298 := n3_; have GE298 := n4_; have NB297_298 := n5_; have NB298_297 := n6_; clear n0_ n1_ n2_ n3_ n4_ n5_ n6_; clear hb hbox hg) | ((with_reducible refine gate_callee (f := 10) rfl ?_); refine goesL_ (some 26) rfl rfl Tryd.func10 (by kernel_rfl) rfl #[] rfl (by (try simp only [List.map_toArray, List.map_cons, List.map_nil]); first | done | rfl | (simp only [List.length_drop, List.length_take]; rfl)) ?_; (with_reducible refine (ridgewaylaw02_awake.calls k  t299 _ ?side1 A6.out).mono ?_); (case side1 => exact Tabs.below HT.out (by repeat (first | (with_reducible first | exact HB.out | apply below_alloc | apply pw_below_drewN | apply below_drew1 | refine below_set ?_ GE297.out | refine below_set ?_ GE298.out) | exact HB.out))); rintro e w10 ⟨rfl, hb⟩; refine ⟨_, rfl, ?_⟩; have n0_ := Aside0.mk (blk_below (g := gb297) (o := .cells #[.int .i64 a0_0, .int .i64 a0_1] 23 (0, 0)) (by (with_reducible repeat (first | refine blk_drewN ?_ _ | refine blk_drew ?_ | refine blk_alloc ?_ _)); exact BK297.out) hb); have n1_ := Aside0.mk (blk_below (g := gb298) (o := .cells #[.int .i64 a1_0, .int .i64 a1_1] 23 (0, 0)) (by (with_reducible repeat (first | refine blk_drewN ?_ _ | refine blk_drew ?_ | refine blk_alloc ?_ _)); exact BK298.out) hb); have n2_ := Aside0.mk (below_step (by repeat (first | (with_reducible first | exact HB.out | apply below_alloc | apply pw_below_drewN | apply below_drew1 | refine below_set ?_ GE297.out | refine below_set ?_ GE298.out) | exact HB.out)) hb); clear BK297; clear BK298; clear HB; have BK297 := n0_; have BK298 := n1_; have HB := n2_; clear n0_ n1_ n2_; (try clear hb); (try clear hb2); (try clear hk); (try clear hi)))
 (try simp only [Act.put, q14a, q14b, q14c])
 go_cut [34] (fun v34 wc => ∃ (kq : Nat) (x34_6 : Bool), v34 = .bool x34_6 ∧ Aside0 (ridgewaylaw02_PrefixIs.j0 kq a2 l3 a4 t299 x34_6 a0_0 a0_1 a1_0 a1_1 = some r) ∧ Aside0 (kq ≤ k) ∧ Aside0 (wc.heap[gb297]? = some (.cells #[.int .i64 a0_0, .int .i64 a0_1] 23 (0, 0))) ∧ Aside0 (wc.heap[gb298]? = some (.cells #[.int .i64 a1_0, .int .i64 a1_1] 23 (0, 0))) ∧ Aside0 (Below w.heap.size w wc))
 case first =>
  have H := HC7.out
  clear HC7
  by_cases c11 : (l3.length : Int) > 300
  ·rw [if_pos c11] at H
   have c11b0 : decide (300 < (l3.length : Int)) = true := decide_eq_true c11
   have c11b1 : decide (300 < l3.length) = true := decide_eq_true (by omega)
   clear c11
   (first | (rw [c11b0]; skip) | (have cw_ := c11b0; simp only [gt_iff_lt, ge_iff_le, Int.natCast_pos] at cw_; rw [cw_]; clear cw_; skip) | skip)
   have H' := Aside0.mk H
   clear H
   go_wp2
   go_meet
   case rel => exact ⟨_, (true), (by first | rfl | (simp; done) | (simp [*]; done)), H', ⟨by first | omega | exact Nat.le_refl _⟩, ⟨by (with_reducible repeat (first | refine blk_drewN ?_ _ | refine blk_drew ?_ | refine blk_alloc ?_ _)); exact BK297.out⟩, ⟨by (with_reducible repeat (first | refine blk_drewN ?_ _ | refine blk_drew ?_ | refine blk_alloc ?_ _)); exact BK298.out⟩, ⟨by repeat (first | (with_reducible first | exact HB.out | apply below_alloc | apply pw_below_drewN | apply below_drew1 | refine below_set ?_ GE297.out | refine below_set ?_ GE298.out) | exact HB.out)⟩⟩
  ·rw [if_neg c11] at H
   have c11b0 : decide (300 < (l3.length : Int)) = false := decide_eq_false c11
   have c11b1 : decide (300 < l3.length) = false := decide_eq_false (by omega)
   clear c11
   (first | (rw [c11b0]; skip) | (have cw_ := c11b0; simp only [gt_iff_lt, ge_iff_le, Int.natCast_pos] at cw_; rw [cw_]; clear cw_; skip) | skip)
   have H' := Aside0.mk H
   clear H
   go_wp2
   go_meet
   case rel => exact ⟨_, (decide ((a4.size : Int) > 60)), (by first | rfl | (simp; done) | (simp [*]; done)), H', ⟨by first | omega | exact Nat.le_refl _⟩, ⟨by (with_reducible repeat (first | refine blk_drewN ?_ _ | refine blk_drew ?_ | refine blk_alloc ?_ _)); exact BK297.out⟩, ⟨by (with_reducible repeat (first | refine blk_drewN ?_ _ | refine blk_drew ?_ | refine blk_alloc ?_ _)); exact BK298.out⟩, ⟨by repeat (first | (with_reducible first | exact HB.out | apply below_alloc | apply pw_below_drewN | apply below_drew1 | refine below_set ?_ GE297.out | refine below_set ?_ GE298.out) | exact HB.out)⟩⟩
 case rest =>
  clear HC7
  try clear c1
  try clear p2
  try clear c3
  try clear c10
  try clear c11
  try clear c11b0
  try clear c11b1
  obtain ⟨kq, x34_6, rfl, HA, HJ6, BK297, BK298, HB⟩ := hcut
  cases kq with
  | zero => exact absurd HA.out (by simp [ridgewaylaw02_PrefixIs.j0])
  | succ kj6 =>
   have H := HA.out
   clear HA
   simp only [ridgewaylaw02_PrefixIs.j0] at H
   by_cases c12 : x34_6 = true
   ·subst c12
    have H1 : (some t299) = some r := by rw [if_pos rfl] at H; exact H
    clear H
    have H := H1
    clear H1
    obtain rfl := Option.some.inj H
    go_wp2
    go_ret
    exact ⟨by first | rfl | (simp [errW_none, errW_some] <;> rfl) | (simp [*, errW_none, errW_some] <;> rfl), by repeat (first | (with_reducible first | exact HB.out | apply below_alloc | apply pw_below_drewN | apply below_drew1 | refine below_set ?_ GE297.out | refine below_set ?_ GE298.out) | exact HB.out)⟩
   ·replace c12 := Bool.eq_false_iff.mpr c12
    subst c12
    have H1 : ((prefix_Get.f kj6 l3).bind fun bt300 => ((ridgewayref02_Get.f kj6 l3).bind fun bt307 => ((prefix_All.f kj6 l3).bind fun bt314 => ((ridgewayref02_All.f kj6 l3).bind fun bt318 => ((prefix_Read.f kj6 a4).bind fun bt322 => ((ridgewayref02_Read.f kj6 a4).bind fun bt326 => (if (!(bt300.1 == bt307.1) || (!(bt300.2.1 == bt307.2.1))) = true then (ridgewaylaw02_PrefixIs.j1 kj6 a2 l3 t299 true a0_0 a0_1 a1_0 a1_1) else (if (strOfNums bt300.2.2.1).toList = (strOfNums bt307.2.2.1).toList then (if (bt300.2.2.2 != bt307.2.2.2) = true then (ridgewaylaw02_PrefixIs.j1 kj6 a2 l3 t299 true a0_0 a0_1 a1_0 a1_1) else ((ridgewayref02_Same.f kj6 bt314.1 bt318.1).bind fun t330 => (if t330 = true then (if (bt314.2 != bt318.2) = true then (ridgewaylaw02_PrefixIs.j1 kj6 a2 l3 t299 true a0_0 a0_1 a1_0 a1_1) else (if (!(bt322.1 == bt326.1) || (!(bt322.2.1 == bt326.2.1))) = true then (ridgewaylaw02_PrefixIs.j1 kj6 a2 l3 t299 true a0_0 a0_1 a1_0 a1_1) else (ridgewaylaw02_PrefixIs.j1 kj6 a2 l3 t299 (bt322.2.2 != bt326.2.2) a0_0 a0_1 a1_0 a1_1))) else (ridgewaylaw02_PrefixIs.j1 kj6 a2 l3 t299 true a0_0 a0_1 a1_0 a1_1)))) else (ridgewaylaw02_PrefixIs.j1 kj6 a2 l3 t299 true a0_0 a0_1 a1_0 a1_1))))))))) = some r := by rw [if_neg (show ¬ (false = true) by decide)] at H; exact H
    clear H
    have H := H1
    clear H1
    replace H := Option.bind_eq_some_iff.mp H
    obtain ⟨⟨t300, t301, t302, t305⟩, A130, H⟩ := H
    replace H : ((ridgewayref02_Get.f kj6 l3).bind fun bt307 => ((prefix_All.f kj6 l3).bind fun bt314 => ((ridgewayref02_All.f kj6 l3).bind fun bt318 => ((prefix_Read.f kj6 a4).bind fun bt322 => ((ridgewayref02_Read.f kj6 a4).bind fun bt326 => (if (!(t300 == bt307.1) || (!(t301 == bt307.2.1))) = true then (ridgewaylaw02_PrefixIs.j1 kj6 a2 l3 t299 true a0_0 a0_1 a1_0 a1_1) else (if (strOfNums t302).toList = (strOfNums bt307.2.2.1).toList then (if (t305 != bt307.2.2.2) = true then (ridgewaylaw02_PrefixIs.j1 kj6 a2 l3 t299 true a0_0 a0_1 a1_0 a1_1) else ((ridgewayref02_Same.f kj6 bt314.1 bt318.1).bind fun t330 => (if t330 = true then (if (bt314.2 != bt318.2) = true then (ridgewaylaw02_PrefixIs.j1 kj6 a2 l3 t299 true a0_0 a0_1 a1_0 a1_1) else (if (!(bt322.1 == bt326.1) || (!(bt322.2.1 == bt326.2.1))) = true then (ridgewaylaw02_PrefixIs.j1 kj6 a2 l3 t299 true a0_0 a0_1 a1_0 a1_1) else (ridgewaylaw02_PrefixIs.j1 kj6 a2 l3 t299 (bt322.2.2 != bt326.2.2) a0_0 a0_1 a1_0 a1_1))) else (ridgewaylaw02_PrefixIs.j1 kj6 a2 l3 t299 true a0_0 a0_1 a1_0 a1_1)))) else (ridgewaylaw02_PrefixIs.j1 kj6 a2 l3 t299 true a0_0 a0_1 a1_0 a1_1)))))))) = some r := H
    have A13 := Aside0.mk A130
    clear A130
    replace H := Option.bind_eq_some_iff.mp H
    obtain ⟨⟨t307, t308, t309, t312⟩, A140, H⟩ := H
    replace H : ((prefix_All.f kj6 l3).bind fun bt314 => ((ridgewayref02_All.f kj6 l3).bind fun bt318 => ((prefix_Read.f kj6 a4).bind fun bt322 => ((ridgewayref02_Read.f kj6 a4).bind fun bt326 => (if (!(t300 == t307) || (!(t301 == t308))) = true then (ridgewaylaw02_PrefixIs.j1 kj6 a2 l3 t299 true a0_0 a0_1 a1_0 a1_1) else (if (strOfNums t302).toList = (strOfNums t309).toList then (if (t305 != t312) = true then (ridgewaylaw02_PrefixIs.j1 kj6 a2 l3 t299 true a0_0 a0_1 a1_0 a1_1) else ((ridgewayref02_Same.f kj6 bt314.1 bt318.1).bind fun t330 => (if t330 = true then (if (bt314.2 != bt318.2) = true then (ridgewaylaw02_PrefixIs.j1 kj6 a2 l3 t299 true a0_0 a0_1 a1_0 a1_1) else (if (!(bt322.1 == bt326.1) || (!(bt322.2.1 == bt326.2.1))) = true then (ridgewaylaw02_PrefixIs.j1 kj6 a2 l3 t299 true a0_0 a0_1 a1_0 a1_1) else (ridgewaylaw02_PrefixIs.j1 kj6 a2 l3 t299 (bt322.2.2 != bt326.2.2) a0_0 a0_1 a1_0 a1_1))) else (ridgewaylaw02_PrefixIs.j1 kj6 a2 l3 t299 true a0_0 a0_1 a1_0 a1_1)))) else (ridgewaylaw02_PrefixIs.j1 kj6 a2 l3 t299 true a0_0 a0_1 a1_0 a1_1))))))) = some r := H
    have A14 := Aside0.mk A140
    clear A140
    replace H := Option.bind_eq_some_iff.mp H
    obtain ⟨⟨t314, t317⟩, A150, H⟩ := H
    replace H : ((ridgewayref02_All.f kj6 l3).bind fun bt318 => ((prefix_Read.f kj6 a4).bind fun bt322 => ((ridgewayref02_Read.f kj6 a4).bind fun bt326 => (if (!(t300 == t307) || (!(t301 == t308))) = true then (ridgewaylaw02_PrefixIs.j1 kj6 a2 l3 t299 true a0_0 a0_1 a1_0 a1_1) else (if (strOfNums t302).toList = (strOfNums t309).toList then (if (t305 != t312) = true then (ridgewaylaw02_PrefixIs.j1 kj6 a2 l3 t299 true a0_0 a0_1 a1_0 a1_1) else ((ridgewayref02_Same.f kj6 t314 bt318.1).bind fun t330 => (if t330 = true then (if (t317 != bt318.2) = true then (ridgewaylaw02_PrefixIs.j1 kj6 a2 l3 t299 true a0_0 a0_1 a1_0 a1_1) else (if (!(bt322.1 == bt326.1) || (!(bt322.2.1 == bt326.2.1))) = true then (ridgewaylaw02_PrefixIs.j1 kj6 a2 l3 t299 true a0_0 a0_1 a1_0 a1_1) else (ridgewaylaw02_PrefixIs.j1 kj6 a2 l3 t299 (bt322.2.2 != bt326.2.2) a0_0 a0_1 a1_0 a1_1))) else (ridgewaylaw02_PrefixIs.j1 kj6 a2 l3 t299 true a0_0 a0_1 a1_0 a1_1)))) else (ridgewaylaw02_PrefixIs.j1 kj6 a2 l3 t299 true a0_0 a0_1 a1_0 a1_1)))))) = some r := H
    have A15 := Aside0.mk A150
    clear A150
    replace H := Option.bind_eq_some_iff.mp H
    obtain ⟨⟨t318, t321⟩, A160, H⟩ := H
    replace H : ((prefix_Read.f kj6 a4).bind fun bt322 => ((ridgewayref02_Read.f kj6 a4).bind fun bt326 => (if (!(t300 == t307) || (!(t301 == t308))) = true then (ridgewaylaw02_PrefixIs.j1 kj6 a2 l3 t299 true a0_0 a0_1 a1_0 a1_1) else (if (strOfNums t302).toList = (strOfNums t309).toList then (if (t305 != t312) = true then (ridgewaylaw02_PrefixIs.j1 kj6 a2 l3 t299 true a0_0 a0_1 a1_0 a1_1) else ((ridgewayref02_Same.f kj6 t314 t318).bind fun t330 => (if t330 = true then (if (t317 != t321) = true then (ridgewaylaw02_PrefixIs.j1 kj6 a2 l3 t299 true a0_0 a0_1 a1_0 a1_1) else (if (!(bt322.1 == bt326.1) || (!(bt322.2.1 == bt326.2.1))) = true then (ridgewaylaw02_PrefixIs.j1 kj6 a2 l3 t299 true a0_0 a0_1 a1_0 a1_1) else (ridgewaylaw02_PrefixIs.j1 kj6 a2 l3 t299 (bt322.2.2 != bt326.2.2) a0_0 a0_1 a1_0 a1_1))) else (ridgewaylaw02_PrefixIs.j1 kj6 a2 l3 t299 true a0_0 a0_1 a1_0 a1_1)))) else (ridgewaylaw02_PrefixIs.j1 kj6 a2 l3 t299 true a0_0 a0_1 a1_0 a1_1))))) = some r := H
    have A16 := Aside0.mk A160
    clear A160
    replace H := Option.bind_eq_some_iff.mp H
    obtain ⟨⟨t322, t323, t324⟩, A170, H⟩ := H
    replace H : ((ridgewayref02_Read.f kj6 a4).bind fun bt326 => (if (!(t300 == t307) || (!(t301 == t308))) = true then (ridgewaylaw02_PrefixIs.j1 kj6 a2 l3 t299 true a0_0 a0_1 a1_0 a1_1) else (if (strOfNums t302).toList = (strOfNums t309).toList then (if (t305 != t312) = true then (ridgewaylaw02_PrefixIs.j1 kj6 a2 l3 t299 true a0_0 a0_1 a1_0 a1_1) else ((ridgewayref02_Same.f kj6 t314 t318).bind fun t330 => (if t330 = true then (if (t317 != t321) = true then (ridgewaylaw02_PrefixIs.j1 kj6 a2 l3 t299 true a0_0 a0_1 a1_0 a1_1) else (if (!(t322 == bt326.1) || (!(t323 == bt326.2.1))) = true then (ridgewaylaw02_PrefixIs.j1 kj6 a2 l3 t299 true a0_0 a0_1 a1_0 a1_1) else (ridgewaylaw02_PrefixIs.j1 kj6 a2 l3 t299 (t324 != bt326.2.2) a0_0 a0_1 a1_0 a1_1))) else (ridgewaylaw02_PrefixIs.j1 kj6 a2 l3 t299 true a0_0 a0_1 a1_0 a1_1)))) else (ridgewaylaw02_PrefixIs.j1 kj6 a2 l3 t299 true a0_0 a0_1 a1_0 a1_1)))) = some r := H
    have A17 := Aside0.mk A170
    clear A170
    replace H := Option.bind_eq_some_iff.mp H
    obtain ⟨⟨t326, t327, t328⟩, A180, H⟩ := H
    replace H : (if (!(t300 == t307) || (!(t301 == t308))) = true then (ridgewaylaw02_PrefixIs.j1 kj6 a2 l3 t299 true a0_0 a0_1 a1_0 a1_1) else (if (strOfNums t302).toList = (strOfNums t309).toList then (if (t305 != t312) = true then (ridgewaylaw02_PrefixIs.j1 kj6 a2 l3 t299 true a0_0 a0_1 a1_0 a1_1) else ((ridgewayref02_Same.f kj6 t314 t318).bind fun t330 => (if t330 = true then (if (t317 != t321) = true then (ridgewaylaw02_PrefixIs.j1 kj6 a2 l3 t299 true a0_0 a0_1 a1_0 a1_1) else (if (!(t322 == t326) || (!(t323 == t327))) = true then (ridgewaylaw02_PrefixIs.j1 kj6 a2 l3 t299 true a0_0 a0_1 a1_0 a1_1) else (ridgewaylaw02_PrefixIs.j1 kj6 a2 l3 t299 (t324 != t328) a0_0 a0_1 a1_0 a1_1))) else (ridgewaylaw02_PrefixIs.j1 kj6 a2 l3 t299 true a0_0 a0_1 a1_0 a1_1)))) else (ridgewaylaw02_PrefixIs.j1 kj6 a2 l3 t299 true a0_0 a0_1 a1_0 a1_1))) = some r := H
    have A18 := Aside0.mk A180
    clear A180
    have HC19 := Aside0.mk H
    clear H
    go_upto_region 10 with (first | ((with_reducible refine gate_callee (f := 11) rfl ?_); refine goesL_ (some 38) rfl rfl Tryd.func11 (by kernel_rfl) rfl #[.slice A3 l3.length c3] rfl (by (try simp only [List.map_toArray, List.map_cons, List.map_nil]); first | done | rfl | (simp only [List.length_drop, List.length_take]; rfl)) ?_; (with_reducible refine (prefix_Get.calls kj6 (fun k_ => k_ < w.heap.size) _ _ l3 t300 t301 t302 t305 _ ?side1 A13.out).mono ?_); (case side1 => exact Kd.V_mk HC3.out (Kd.F_below (Kd.C_F (Kd.heap_int .u8) HR3.out) (by repeat (first | (with_reducible first | exact HB.out | apply below_alloc | apply pw_below_drewN | apply below_drew1 | refine below_set ?_ GE297.out | refine below_set ?_ GE298.out) | exact HB.out)))); rintro e w20 ⟨v303, rfl, ho0, hb⟩; refine ⟨_, rfl, ?_⟩; have n0_ := Aside0.mk (Kd.V_lower (Kd.V_mono (ok' := fun k_ => k_ ≠ gb297 ∧ k_ ≠ gb298) ho0 (fun k_ hk_ => ⟨Or.elim hk_ (fun hs_ => fun e_ => Nat.not_le.2 hs_ (by rw [e_]; exact GW297.out)) (fun hn_ => (Kd.freshB (g := gb297) (o := .cells #[.int .i64 a0_0, .int .i64 a0_1] 23 (0, 0)) (by (with_reducible repeat (first | refine blk_drewN ?_ _ | refine blk_drew ?_ | refine blk_alloc ?_ _)); exact BK297.out) k_ hn_)), Or.elim hk_ (fun hs_ => fun e_ => Nat.not_le.2 hs_ (by rw [e_]; exact GW298.out)) (fun hn_ => (Kd.freshB (g := gb298) (o := .cells #[.int .i64 a1_0, .int .i64 a1_1] 23 (0, 0)) (by (with_reducible repeat (first | refine blk_drewN ?_ _ | refine blk_drew ?_ | refine blk_alloc ?_ _)); exact BK298.out) k_ hn_))⟩)) (below_size (by repeat (first | (with_reducible first | exact HB.out | apply below_alloc | apply pw_below_drewN | apply below_drew1 | refine below_set ?_ GE297.out | refine below_set ?_ GE298.out) | exact HB.out)))); have n1_ := Aside0.mk (blk_below (g := gb297) (o := .cells #[.int .i64 a0_0, .int .i64 a0_1] 23 (0, 0)) (by (with_reducible repeat (first | refine blk_drewN ?_ _ | refine blk_drew ?_ | refine blk_alloc ?_ _)); exact BK297.out) hb); have n2_ := Aside0.mk (blk_below (g := gb298) (o := .cells #[.int .i64 a1_0, .int .i64 a1_1] 23 (0, 0)) (by (with_reducible repeat (first | refine blk_drewN ?_ _ | refine blk_drew ?_ | refine blk_alloc ?_ _)); exact BK298.out) hb); have n3_ := Aside0.mk (below_step (by repeat (first | (with_reducible first | exact HB.out | apply below_alloc | apply pw_below_drewN | apply below_drew1 | refine below_set ?_ GE297.out | refine below_set ?_ GE298.out) | exact HB.out)) hb); clear BK297; clear BK298; clear HB; have HO304 := n0_; have BK297 := n1_; have BK298 := n2_; have HB := n3_; clear n0_ n1_ n2_ n3_; (try clear hb); (try clear hb2); (try clear hk); (try clear hi); (try clear ho0)) | ((with_reducible refine gate_dst (N := 12) rfl ?_); (try (refine gate_guard (by rfl) ?_; dsimp only)); refine box_event ?hg (N := 12) ?hd (cs := #[.int .i64 0, .int .i64 0]) (t := 23) ?hr ?_; (case hd => rfl); (case hg => rfl); (case hr => first | (go_simp; done) | (go_simp; rfl)); intro gb306 hg w21 hbox hb; have n0_ := Aside0.mk (Kd.V_below (Kd.V_elderB (by (with_reducible repeat (first | apply Kd.V_alloc | apply Kd.V_drewN | apply Kd.V_drew)); exact HO304.out) gb306 (Nat.le_of_eq hg.symm)) hb); have n1_ := Aside0.mk (blk_below (g := gb297) (o := .cells #[.int .i64 a0_0, .int .i64 a0_1] 23 (0, 0)) (by (with_reducible repeat (first | refine blk_drewN ?_ _ | refine blk_drew ?_ | refine blk_alloc ?_ _)); exact BK297.out) hb); have n2_ := Aside0.mk (blk_below (g := gb298) (o := .cells #[.int .i64 a1_0, .int .i64 a1_1] 23 (0, 0)) (by (with_reducible repeat (first | refine blk_drewN ?_ _ | refine blk_drew ?_ | refine blk_alloc ?_ _)); exact BK298.out) hb); have n3_ := Aside0.mk (below_step (by repeat (first | (with_reducible first | exact HB.out | apply below_alloc | apply pw_below_drewN | apply below_drew1 | refine below_set ?_ GE297.out | refine below_set ?_ GE298.out) | exact HB.out)) hb); have n4_ := Aside0.mk (hbox); have n5_ := Aside0.mk ((by rw [hg]; exact (below_size (by repeat (first | (with_reducible first | exact HB.out | apply below_alloc | apply pw_below_drewN | apply below_drew1 | refine below_set ?_ GE297.out | refine below_set ?_ GE298.out) | exact HB.out))) : w.heap.size ≤ gb306)); have n6_ := Aside0.mk ((by rw [hg]; exact (below_size (by repeat (first | (with_reducible first | exact HB.out | apply below_alloc | apply pw_below_drewN | apply below_drew1 | refine below_set ?_ GE297.out | refine below_set ?_ GE298.out) | exact HB.out))) : w.heap.size ≤ gb306)); have n7_ := Aside0.mk ((by rw [hg]; exact Nat.ne_of_lt (blk_lt (g := gb297) (o := .cells #[.int .i64 a0_0, .int .i64 a0_1] 23 (0, 0)) (by (with_reducible repeat (first | refine blk_drewN ?_ _ | refine blk_drew ?_ | refine blk_alloc ?_ _)); exact BK297.out)) : gb297 ≠ gb306)); have n8_ := Aside0.mk ((by rw [hg]; exact Nat.ne_of_gt (blk_lt (g := gb297) (o := .cells #[.int .i64 a0_0, .int .i64 a0_1] 23 (0, 0)) (by (with_reducible repeat (first | refine blk_drewN ?_ _ | refine blk_drew ?_ | refine blk_alloc ?_ _)); exact BK297.out)) : gb306 ≠ gb297)); have n9_ := Aside0.mk ((by rw [hg]; exact Nat.ne_of_lt (blk_lt (g := gb298) (o := .cells #[.int .i64 a1_0, .int .i64 a1_1] 23 (0, 0)) (by (with_reducible repeat (first | refine blk_drewN ?_ _ | refine blk_drew ?_ | refine blk_alloc ?_ _)); exact BK298.out)) : gb298 ≠ gb306)); have n10_ := Aside0.mk ((by rw [hg]; exact Nat.ne_of_gt (blk_lt (g := gb298) (o := .cells #[.int .i64 a1_0, .int .i64 a1_1] 23 (0, 0)) (by (with_reducible repeat (first | refine blk_drewN ?_ _ | refine blk_drew ?_ | refine blk_alloc ?_ _)); exact BK298.out)) : gb306 ≠ gb298)); clear HO304; clear BK297; clear BK298; clear HB; have HO304 := n0_; have BK297 := n1_; have BK298 := n2_; have HB := n3_; have BK306 := n4_; have GW306 := n5_; have GE306 := n6_; have NB297_306 := n7_; have NB306_297 := n8_; have NB298_306 := n9_; have NB306_298 := n10_; clear n0_ n1_ n2_ n3_ n4_ n5_ n6_ n7_ n8_ n9_ n10_; clear hb hbox hg; have hnb22 := NB306_297.out; have hnc22 := NB297_306.out; have hnb23 := NB306_298.out; have hnc23 := NB298_306.out; have hcz24_0 : w21.cell? ⟨gb306, 0, none⟩ = some (.int .i64 0) := (blk_cell BK306.out 0).trans rfl; have hcz24_1 : w21.cell? ⟨gb306, 1, none⟩ = some (.int .i64 0) := (blk_cell BK306.out 1).trans rfl; have hfz24_0 := blk_frozen BK306.out 0; have hfz24_1 := blk_frozen BK306.out 1) | ((with_reducible refine gate_store (t := 23) (p := 12) rfl ?_); refine store_event (t := 23) (p := 12) (v := ?vo_w25) (w1 := ((w21.setCell ⟨gb306, 0, none⟩ (.int .i64 t300)).setCell ⟨gb306, 1, none⟩ (.int .i64 t301))) ?hg ?ho ?hn ?hr ?_; (case ho => rfl); (case hg => rfl); (case hn => rfl); (case hr => first | (go_simp; done) | (go_simp; rfl)); intro w25 hw; have n0_ : Aside0 (Kd.V (Kd.int .u8) 5 w25 w.heap.size (fun k_ => k_ ≠ gb297 ∧ k_ ≠ gb298 ∧ k_ ≠ gb306) v303 t302) := ⟨(by rw [hw]; exact (by (with_reducible repeat (first | apply Kd.V_alloc | apply Kd.V_drewN | apply Kd.V_drew)); exact Kd.V_mono (Kd.V_far (p := ⟨gb306, 1, none⟩) (Kd.V_far (p := ⟨gb306, 0, none⟩) (Kd.V_mono HO304.out (fun k_ hk => (⟨hk, hk.2⟩ : _ ∧ k_ ≠ gb306))) (fun _ hk => hk.2) (.int .i64 t300)) (fun _ hk => hk.2) (.int .i64 t301)) (fun _ hk => ⟨hk.1.1.1, ⟨hk.1.1.2, hk.1.2⟩⟩)))⟩; have n1_ : Aside0 (w25.heap[gb297]? = some (.cells #[.int .i64 a0_0, .int .i64 a0_1] 23 (0, 0))) := ⟨(by rw [hw]; exact (by (with_reducible repeat (first | refine blk_drewN ?_ _ | refine blk_drew ?_ | refine blk_alloc ?_ _)); refine blk_far ?_ NB297_306.out _; (with_reducible repeat (first | refine blk_drewN ?_ _ | refine blk_drew ?_ | refine blk_alloc ?_ _)); refine blk_far ?_ NB297_306.out _; (with_reducible repeat (first | refine blk_drewN ?_ _ | refine blk_drew ?_ | refine blk_alloc ?_ _)); exact BK297.out))⟩; have n2_ : Aside0 (w25.heap[gb298]? = some (.cells #[.int .i64 a1_0, .int .i64 a1_1] 23 (0, 0))) := ⟨(by rw [hw]; exact (by (with_reducible repeat (first | refine blk_drewN ?_ _ | refine blk_drew ?_ | refine blk_alloc ?_ _)); refine blk_far ?_ NB298_306.out _; (with_reducible repeat (first | refine blk_drewN ?_ _ | refine blk_drew ?_ | refine blk_alloc ?_ _)); refine blk_far ?_ NB298_306.out _; (with_reducible repeat (first | refine blk_drewN ?_ _ | refine blk_drew ?_ | refine blk_alloc ?_ _)); exact BK298.out))⟩; have n3_ : Aside0 (w25.heap[gb306]? = some (.cells #[.int .i64 t300, .int .i64 t301] 23 (0, 0))) := ⟨(by rw [hw]; exact (by (with_reducible repeat (first | refine blk_drewN ?_ _ | refine blk_drew ?_ | refine blk_alloc ?_ _)); refine blk_put (cs := #[.int .i64 t300, .int .i64 0]) ?_ 1 _ rfl; (with_reducible repeat (first | refine blk_drewN ?_ _ | refine blk_drew ?_ | refine blk_alloc ?_ _)); refine blk_put (cs := #[.int .i64 0, .int .i64 0]) ?_ 0 _ rfl; (with_reducible repeat (first | refine blk_drewN ?_ _ | refine blk_drew ?_ | refine blk_alloc ?_ _)); exact BK306.out))⟩; have n4_ : Aside0 (Below w.heap.size w w25) := ⟨(by rw [hw]; exact (by repeat (first | (with_reducible first | exact HB.out | apply below_alloc | apply pw_below_drewN | apply below_drew1 | refine below_set ?_ GE297.out | refine below_set ?_ GE298.out | refine below_set ?_ GE306.out) | exact HB.out)))⟩; clear hw; clear HO304; clear BK297; clear BK298; clear BK306; clear HB; have HO304 := n0_; have BK297 := n1_; have BK298 := n2_; have BK306 := n3_; have HB := n4_; clear n0_ n1_ n2_ n3_ n4_) | ((with_reducible refine gate_callee (f := 12) rfl ?_); refine goesL_ (some 44) rfl rfl Tryd.func12 (by kernel_rfl) rfl #[.slice A3 l3.length c3] rfl (by (try simp only [List.map_toArray, List.map_cons, List.map_nil]); first | done | rfl | (simp only [List.length_drop, List.length_take]; rfl)) ?_; (with_reducible refine (ridgewayref02_Get.calls kj6 (fun k_ => k_ < w.heap.size) _ _ l3 t307 t308 t309 t312 _ ?side1 A14.out).mono ?_); (case side1 => exact Kd.V_mk HC3.out (Kd.F_below (Kd.C_F (Kd.heap_int .u8) HR3.out) (by repeat (first | (with_reducible first | exact HB.out | apply below_alloc | apply pw_below_drewN | apply below_drew1 | refine below_set ?_ GE297.out | refine below_set ?_ GE298.out | refine below_set ?_ GE306.out) | exact HB.out)))); rintro e w26 ⟨v310, rfl, ho0, hb⟩; refine ⟨_, rfl, ?_⟩; have n0_ := Aside0.mk (Kd.V_below (by (with_reducible repeat (first | apply Kd.V_alloc | apply Kd.V_drewN | apply Kd.V_drew)); exact HO304.out) hb); have n1_ := Aside0.mk (Kd.V_lower (Kd.V_mono (ok' := fun k_ => k_ ≠ gb297 ∧ k_ ≠ gb298 ∧ k_ ≠ gb306) ho0 (fun k_ hk_ => ⟨Or.elim hk_ (fun hs_ => fun e_ => Nat.not_le.2 hs_ (by rw [e_]; exact GW297.out)) (fun hn_ => (Kd.freshB (g := gb297) (o := .cells #[.int .i64 a0_0, .int .i64 a0_1] 23 (0, 0)) (by (with_reducible repeat (first | refine blk_drewN ?_ _ | refine blk_drew ?_ | refine blk_alloc ?_ _)); exact BK297.out) k_ hn_)), Or.elim hk_ (fun hs_ => fun e_ => Nat.not_le.2 hs_ (by rw [e_]; exact GW298.out)) (fun hn_ => (Kd.freshB (g := gb298) (o := .cells #[.int .i64 a1_0, .int .i64 a1_1] 23 (0, 0)) (by (with_reducible repeat (first | refine blk_drewN ?_ _ | refine blk_drew ?_ | refine blk_alloc ?_ _)); exact BK298.out) k_ hn_)), Or.elim hk_ (fun hs_ => fun e_ => Nat.not_le.2 hs_ (by rw [e_]; exact GW306.out)) (fun hn_ => (Kd.freshB (g := gb306) (o := .cells #[.int .i64 t300, .int .i64 t301] 23 (0, 0)) (by (with_reducible repeat (first | refine blk_drewN ?_ _ | refine blk_drew ?_ | refine blk_alloc ?_ _)); exact BK306.out) k_ hn_))⟩)) (below_size (by repeat (first | (with_reducible first | exact HB.out | apply below_alloc | apply pw_below_drewN | apply below_drew1 | refine below_set ?_ GE297.out | refine below_set ?_ GE298.out | refine below_set ?_ GE306.out) | exact HB.out)))); have n2_ := Aside0.mk (blk_below (g := gb297) (o := .cells #[.int .i64 a0_0, .int .i64 a0_1] 23 (0, 0)) (by (with_reducible repeat (first | refine blk_drewN ?_ _ | refine blk_drew ?_ | refine blk_alloc ?_ _)); exact BK297.out) hb); have n3_ := Aside0.mk (blk_below (g := gb298) (o := .cells #[.int .i64 a1_0, .int .i64 a1_1] 23 (0, 0)) (by (with_reducible repeat (first | refine blk_drewN ?_ _ | refine blk_drew ?_ | refine blk_alloc ?_ _)); exact BK298.out) hb); have n4_ := Aside0.mk (blk_below (g := gb306) (o := .cells #[.int .i64 t300, .int .i64 t301] 23 (0, 0)) (by (with_reducible repeat (first | refine blk_drewN ?_ _ | refine blk_drew ?_ | refine blk_alloc ?_ _)); exact BK306.out) hb); have n5_ := Aside0.mk (below_step (by repeat (first | (with_reducible first | exact HB.out | apply below_alloc | apply pw_below_drewN | apply below_drew1 | refine below_set ?_ GE297.out | refine below_set ?_ GE298.out | refine below_set ?_ GE306.out) | exact HB.out)) hb); clear HO304; clear BK297; clear BK298; clear BK306; clear HB; have HO304 := n0_; have HO311 := n1_; have BK297 := n2_; have BK298 := n3_; have BK306 := n4_; have HB := n5_; clear n0_ n1_ n2_ n3_ n4_ n5_; (try clear hb); (try clear hb2); (try clear hk); (try clear hi); (try clear ho0)) | ((with_reducible refine gate_dst (N := 15) rfl ?_); (try (refine gate_guard (by rfl) ?_; dsimp only)); refine box_event ?hg (N := 15) ?hd (cs := #[.int .i64 0, .int .i64 0]) (t := 23) ?hr ?_; (case hd => rfl); (case hg => rfl); (case hr => first | (go_simp; done) | (go_simp; rfl)); intro gb313 hg w27 hbox hb; have n0_ := Aside0.mk (Kd.V_below (Kd.V_elderB (by (with_reducible repeat (first | apply Kd.V_alloc | apply Kd.V_drewN | apply Kd.V_drew)); exact HO304.out) gb313 (Nat.le_of_eq hg.symm)) hb); have n1_ := Aside0.mk (Kd.V_below (Kd.V_elderB (by (with_reducible repeat (first | apply Kd.V_alloc | apply Kd.V_drewN | apply Kd.V_drew)); exact HO311.out) gb313 (Nat.le_of_eq hg.symm)) hb); have n2_ := Aside0.mk (blk_below (g := gb297) (o := .cells #[.int .i64 a0_0, .int .i64 a0_1] 23 (0, 0)) (by (with_reducible repeat (first | refine blk_drewN ?_ _ | refine blk_drew ?_ | refine blk_alloc ?_ _)); exact BK297.out) hb); have n3_ := Aside0.mk (blk_below (g := gb298) (o := .cells #[.int .i64 a1_0, .int .i64 a1_1] 23 (0, 0)) (by (with_reducible repeat (first | refine blk_drewN ?_ _ | refine blk_drew ?_ | refine blk_alloc ?_ _)); exact BK298.out) hb); have n4_ := Aside0.mk (blk_below (g := gb306) (o := .cells #[.int .i64 t300, .int .i64 t301] 23 (0, 0)) (by (with_reducible repeat (first | refine blk_drewN ?_ _ | refine blk_drew ?_ | refine blk_alloc ?_ _)); exact BK306.out) hb); have n5_ := Aside0.mk (below_step (by repeat (first | (with_reducible first | exact HB.out | apply below_alloc | apply pw_below_drewN | apply below_drew1 | refine below_set ?_ GE297.out | refine below_set ?_ GE298.out | refine below_set ?_ GE306.out) | exact HB.out)) hb); have n6_ := Aside0.mk (hbox); have n7_ := Aside0.mk ((by rw [hg]; exact (below_size (by repeat (first | (with_reducible first | exact HB.out | apply below_alloc | apply pw_below_drewN | apply below_drew1 | refine below_set ?_ GE297.out | refine below_set ?_ GE298.out | refine below_set ?_ GE306.out) | exact HB.out))) : w.heap.size ≤ gb313)); have n8_ := Aside0.mk ((by rw [hg]; exact (below_size (by repeat (first | (with_reducible first | exact HB.out | apply below_alloc | apply pw_below_drewN | apply below_drew1 | refine below_set ?_ GE297.out | refine below_set ?_ GE298.out | refine below_set ?_ GE306.out) | exact HB.out))) : w.heap.size ≤ gb313)); have n9_ := Aside0.mk ((by rw [hg]; exact Nat.ne_of_lt (blk_lt (g := gb297) (o := .cells #[.int .i64 a0_0, .int .i64 a0_1] 23 (0, 0)) (by (with_reducible repeat (first | refine blk_drewN ?_ _ | refine blk_drew ?_ | refine blk_alloc ?_ _)); exact BK297.out)) : gb297 ≠ gb313)); have n10_ := Aside0.mk ((by rw [hg]; exact Nat.ne_of_gt (blk_lt (g := gb297) (o := .cells #[.int .i64 a0_0, .int .i64 a0_1] 23 (0, 0)) (by (with_reducible repeat (first | refine blk_drewN ?_ _ | refine blk_drew ?_ | refine blk_alloc ?_ _)); exact BK297.out)) : gb313 ≠ gb297)); have n11_ := Aside0.mk ((by rw [hg]; exact Nat.ne_of_lt (blk_lt (g := gb298) (o := .cells #[.int .i64 a1_0, .int .i64 a1_1] 23 (0, 0)) (by (with_reducible repeat (first | refine blk_drewN ?_ _ | refine blk_drew ?_ | refine blk_alloc ?_ _)); exact BK298.out)) : gb298 ≠ gb313)); have n12_ := Aside0.mk ((by rw [hg]; exact Nat.ne_of_gt (blk_lt (g := gb298) (o := .cells #[.int .i64 a1_0, .int .i64 a1_1] 23 (0, 0)) (by (with_reducible repeat (first | refine blk_drewN ?_ _ | refine blk_drew ?_ | refine blk_alloc ?_ _)); exact BK298.out)) : gb313 ≠ gb298)); have n13_ := Aside0.mk ((by rw [hg]; exact Nat.ne_of_lt (blk_lt (g := gb306) (o := .cells #[.int .i64 t300, .int .i64 t301] 23 (0, 0)) (by (with_reducible repeat (first | refine blk_drewN ?_ _ | refine blk_drew ?_ | refine blk_alloc ?_ _)); exact BK306.out)) : gb306 ≠ gb313)); have n14_ := Aside0.mk ((by rw [hg]; exact Nat.ne_of_gt (blk_lt (g := gb306) (o := .cells #[.int .i64 t300, .int .i64 t301] 23 (0, 0)) (by (with_reducible repeat (first | refine blk_drewN ?_ _ | refine blk_drew ?_ | refine blk_alloc ?_ _)); exact BK306.out)) : gb313 ≠ gb306)); clear HO304; clear HO311; clear BK297; clear BK298; clear BK306; clear HB; have HO304 := n0_; have HO311 := n1_; have BK297 := n2_; have BK298 := n3_; have BK306 := n4_; have HB := n5_; have BK313 := n6_; have GW313 := n7_; have GE313 := n8_; have NB297_313 := n9_; have NB313_297 := n10_; have NB298_313 := n11_; have NB313_298 := n12_; have NB306_313 := n13_; have NB313_306 := n14_; clear n0_ n1_ n2_ n3_ n4_ n5_ n6_ n7_ n8_ n9_ n10_ n11_ n12_ n13_ n14_; clear hb hbox hg; have hnb28 := NB313_297.out; have hnc28 := NB297_313.out; have hnb29 := NB313_298.out; have hnc29 := NB298_313.out; have hnb30 := NB313_306.out; have hnc30 := NB306_313.out; have hcz31_0 : w27.cell? ⟨gb313, 0, none⟩ = some (.int .i64 0) := (blk_cell BK313.out 0).trans rfl; have hcz31_1 : w27.cell? ⟨gb313, 1, none⟩ = some (.int .i64 0) := (blk_cell BK313.out 1).trans rfl; have hfz31_0 := blk_frozen BK313.out 0; have hfz31_1 := blk_frozen BK313.out 1) | ((with_reducible refine gate_store (t := 23) (p := 15) rfl ?_); refine store_event (t := 23) (p := 15) (v := ?vo_w32) (w1 := ((w27.setCell ⟨gb313, 0, none⟩ (.int .i64 t307)).setCell ⟨gb313, 1, none⟩ (.int .i64 t308))) ?hg ?ho ?hn ?hr ?_; (case ho => rfl); (case hg => rfl); (case hn => rfl); (case hr => first | (go_simp; done) | (go_simp; rfl)); intro w32 hw; have n0_ : Aside0 (Kd.V (Kd.int .u8) 5 w32 w.heap.size (fun k_ => k_ ≠ gb297 ∧ k_ ≠ gb298 ∧ k_ ≠ gb306 ∧ k_ ≠ gb313) v303 t302) := ⟨(by rw [hw]; exact (by (with_reducible repeat (first | apply Kd.V_alloc | apply Kd.V_drewN | apply Kd.V_drew)); exact Kd.V_mono (Kd.V_far (p := ⟨gb313, 1, none⟩) (Kd.V_far (p := ⟨gb313, 0, none⟩) (Kd.V_mono HO304.out (fun k_ hk => (⟨hk, hk.2⟩ : _ ∧ k_ ≠ gb313))) (fun _ hk => hk.2) (.int .i64 t307)) (fun _ hk => hk.2) (.int .i64 t308)) (fun _ hk => ⟨hk.1.1.1, ⟨hk.1.1.2.1, ⟨hk.1.1.2.2, hk.1.2⟩⟩⟩)))⟩; have n1_ : Aside0 (Kd.V (Kd.int .u8) 5 w32 w.heap.size (fun k_ => k_ ≠ gb297 ∧ k_ ≠ gb298 ∧ k_ ≠ gb306 ∧ k_ ≠ gb313) v310 t309) := ⟨(by rw [hw]; exact (by (with_reducible repeat (first | apply Kd.V_alloc | apply Kd.V_drewN | apply Kd.V_drew)); exact Kd.V_mono (Kd.V_far (p := ⟨gb313, 1, none⟩) (Kd.V_far (p := ⟨gb313, 0, none⟩) (Kd.V_mono HO311.out (fun k_ hk => (⟨hk, hk.2⟩ : _ ∧ k_ ≠ gb313))) (fun _ hk => hk.2) (.int .i64 t307)) (fun _ hk => hk.2) (.int .i64 t308)) (fun _ hk => ⟨hk.1.1.1, ⟨hk.1.1.2.1, ⟨hk.1.1.2.2, hk.1.2⟩⟩⟩)))⟩; have n2_ : Aside0 (w32.heap[gb297]? = some (.cells #[.int .i64 a0_0, .int .i64 a0_1] 23 (0, 0))) := ⟨(by rw [hw]; exact (by (with_reducible repeat (first | refine blk_drewN ?_ _ | refine blk_drew ?_ | refine blk_alloc ?_ _)); refine blk_far ?_ NB297_313.out _; (with_reducible repeat (first | refine blk_drewN ?_ _ | refine blk_drew ?_ | refine blk_alloc ?_ _)); refine blk_far ?_ NB297_313.out _; (with_reducible repeat (first | refine blk_drewN ?_ _ | refine blk_drew ?_ | refine blk_alloc ?_ _)); exact BK297.out))⟩; have n3_ : Aside0 (w32.heap[gb298]? = some (.cells #[.int .i64 a1_0, .int .i64 a1_1] 23 (0, 0))) := ⟨(by rw [hw]; exact (by (with_reducible repeat (first | refine blk_drewN ?_ _ | refine blk_drew ?_ | refine blk_alloc ?_ _)); refine blk_far ?_ NB298_313.out _; (with_reducible repeat (first | refine blk_drewN ?_ _ | refine blk_drew ?_ | refine blk_alloc ?_ _)); refine blk_far ?_ NB298_313.out _; (with_reducible repeat (first | refine blk_drewN ?_ _ | refine blk_drew ?_ | refine blk_alloc ?_ _)); exact BK298.out))⟩; have n4_ : Aside0 (w32.heap[gb306]? = some (.cells #[.int .i64 t300, .int .i64 t301] 23 (0, 0))) := ⟨(by rw [hw]; exact (by (with_reducible repeat (first | refine blk_drewN ?_ _ | refine blk_drew ?_ | refine blk_alloc ?_ _)); refine blk_far ?_ NB306_313.out _; (with_reducible repeat (first | refine blk_drewN ?_ _ | refine blk_drew ?_ | refine blk_alloc ?_ _)); refine blk_far ?_ NB306_313.out _; (with_reducible repeat (first | refine blk_drewN ?_ _ | refine blk_drew ?_ | refine blk_alloc ?_ _)); exact BK306.out))⟩; have n5_ : Aside0 (w32.heap[gb313]? = some (.cells #[.int .i64 t307, .int .i64 t308] 23 (0, 0))) := ⟨(by rw [hw]; exact (by (with_reducible repeat (first | refine blk_drewN ?_ _ | refine blk_drew ?_ | refine blk_alloc ?_ _)); refine blk_put (cs := #[.int .i64 t307, .int .i64 0]) ?_ 1 _ rfl; (with_reducible repeat (first | refine blk_drewN ?_ _ | refine blk_drew ?_ | refine blk_alloc ?_ _)); refine blk_put (cs := #[.int .i64 0, .int .i64 0]) ?_ 0 _ rfl; (with_reducible repeat (first | refine blk_drewN ?_ _ | refine blk_drew ?_ | refine blk_alloc ?_ _)); exact BK313.out))⟩; have n6_ : Aside0 (Below w.heap.size w w32) := ⟨(by rw [hw]; exact (by repeat (first | (with_reducible first | exact HB.out | apply below_alloc | apply pw_below_drewN | apply below_drew1 | refine below_set ?_ GE297.out | refine below_set ?_ GE298.out | refine below_set ?_ GE306.out | refine below_set ?_ GE313.out) | exact HB.out)))⟩; clear hw; clear HO304; clear HO311; clear BK297; clear BK298; clear BK306; clear BK313; clear HB; have HO304 := n0_; have HO311 := n1_; have BK297 := n2_; have BK298 := n3_; have BK306 := n4_; have BK313 := n5_; have HB := n6_; clear n0_ n1_ n2_ n3_ n4_ n5_ n6_) | ((with_reducible refine gate_callee (f := 13) rfl ?_); refine goesL_ (some 50) rfl rfl Tryd.func13 (by kernel_rfl) rfl #[.slice A3 l3.length c3] rfl (by (try simp only [List.map_toArray, List.map_cons, List.map_nil]); first | done | rfl | (simp only [List.length_drop, List.length_take]; rfl)) ?_; (with_reducible refine (prefix_All.calls kj6 (fun k_ => k_ < w.heap.size) _ _ l3 t314 t317 _ ?side1 A15.out).mono ?_); (case side1 => exact Kd.V_mk HC3.out (Kd.F_below (Kd.C_F (Kd.heap_int .u8) HR3.out) (by repeat (first | (with_reducible first | exact HB.out | apply below_alloc | apply pw_below_drewN | apply below_drew1 | refine below_set ?_ GE297.out | refine below_set ?_ GE298.out | refine below_set ?_ GE306.out | refine below_set ?_ GE313.out) | exact HB.out)))); rintro e w33 ⟨v315, rfl, ho0, hb⟩; refine ⟨_, rfl, ?_⟩; have n0_ := Aside0.mk (Kd.V_elder' (by (with_reducible repeat (first | apply Kd.V_alloc | apply Kd.V_drewN | apply Kd.V_drew)); exact HO304.out) (Kd.R_base ho0) hb); have n1_ := Aside0.mk (Kd.V_elder' (by (with_reducible repeat (first | apply Kd.V_alloc | apply Kd.V_drewN | apply Kd.V_drew)); exact HO311.out) (Kd.R_base ho0) hb); have n2_ := Aside0.mk (Kd.R_lower (Kd.R_newB (Kd.R_newB (Kd.R_newB (Kd.R_newB (Kd.R_mono (ok' := fun k_ => True) ho0 (fun _ hk_ => trivial)) (g := gb297) (o := .cells #[.int .i64 a0_0, .int .i64 a0_1] 23 (0, 0)) (by (with_reducible repeat (first | refine blk_drewN ?_ _ | refine blk_drew ?_ | refine blk_alloc ?_ _)); exact BK297.out)) (g := gb298) (o := .cells #[.int .i64 a1_0, .int .i64 a1_1] 23 (0, 0)) (by (with_reducible repeat (first | refine blk_drewN ?_ _ | refine blk_drew ?_ | refine blk_alloc ?_ _)); exact BK298.out)) (g := gb306) (o := .cells #[.int .i64 t300, .int .i64 t301] 23 (0, 0)) (by (with_reducible repeat (first | refine blk_drewN ?_ _ | refine blk_drew ?_ | refine blk_alloc ?_ _)); exact BK306.out)) (g := gb313) (o := .cells #[.int .i64 t307, .int .i64 t308] 23 (0, 0)) (by (with_reducible repeat (first | refine blk_drewN ?_ _ | refine blk_drew ?_ | refine blk_alloc ?_ _)); exact BK313.out)) (below_size (by repeat (first | (with_reducible first | exact HB.out | apply below_alloc | apply pw_below_drewN | apply below_drew1 | refine below_set ?_ GE297.out | refine below_set ?_ GE298.out | refine below_set ?_ GE306.out | refine below_set ?_ GE313.out) | exact HB.out)))); have n3_ := Aside0.mk (blk_below (g := gb297) (o := .cells #[.int .i64 a0_0, .int .i64 a0_1] 23 (0, 0)) (by (with_reducible repeat (first | refine blk_drewN ?_ _ | refine blk_drew ?_ | refine blk_alloc ?_ _)); exact BK297.out) hb); have n4_ := Aside0.mk (blk_below (g := gb298) (o := .cells #[.int .i64 a1_0, .int .i64 a1_1] 23 (0, 0)) (by (with_reducible repeat (first | refine blk_drewN ?_ _ | refine blk_drew ?_ | refine blk_alloc ?_ _)); exact BK298.out) hb); have n5_ := Aside0.mk (blk_below (g := gb306) (o := .cells #[.int .i64 t300, .int .i64 t301] 23 (0, 0)) (by (with_reducible repeat (first | refine blk_drewN ?_ _ | refine blk_drew ?_ | refine blk_alloc ?_ _)); exact BK306.out) hb); have n6_ := Aside0.mk (blk_below (g := gb313) (o := .cells #[.int .i64 t307, .int .i64 t308] 23 (0, 0)) (by (with_reducible repeat (first | refine blk_drewN ?_ _ | refine blk_drew ?_ | refine blk_alloc ?_ _)); exact BK313.out) hb); have n7_ := Aside0.mk (below_step (by repeat (first | (with_reducible first | exact HB.out | apply below_alloc | apply pw_below_drewN | apply below_drew1 | refine below_set ?_ GE297.out | refine below_set ?_ GE298.out | refine below_set ?_ GE306.out | refine below_set ?_ GE313.out) | exact HB.out)) hb); clear HO304; clear HO311; clear BK297; clear BK298; clear BK306; clear BK313; clear HB; have HO304 := n0_; have HO311 := n1_; have HO316 := n2_; have BK297 := n3_; have BK298 := n4_; have BK306 := n5_; have BK313 := n6_; have HB := n7_; clear n0_ n1_ n2_ n3_ n4_ n5_ n6_ n7_; (try clear hb); (try clear hb2); (try clear hk); (try clear hi); (try clear ho0)) | ((with_reducible refine gate_callee (f := 14) rfl ?_); refine goesL_ (some 55) rfl rfl Tryd.func14 (by kernel_rfl) rfl #[.slice A3 l3.length c3] rfl (by (try simp only [List.map_toArray, List.map_cons, List.map_nil]); first | done | rfl | (simp only [List.length_drop, List.length_take]; rfl)) ?_; (with_reducible refine (ridgewayref02_All.calls kj6 (fun k_ => k_ < w.heap.size) _ _ l3 t318 t321 _ ?side1 A16.out).mono ?_); (case side1 => exact Kd.V_mk HC3.out (Kd.F_below (Kd.C_F (Kd.heap_int .u8) HR3.out) (by repeat (first | (with_reducible first | exact HB.out | apply below_alloc | apply pw_below_drewN | apply below_drew1 | refine below_set ?_ GE297.out | refine below_set ?_ GE298.out | refine below_set ?_ GE306.out | refine below_set ?_ GE313.out) | exact HB.out)))); rintro e w34 ⟨v319, rfl, ho0, hb⟩; refine ⟨_, rfl, ?_⟩; have n0_ := Aside0.mk (Kd.V_elder' (by (with_reducible repeat (first | apply Kd.V_alloc | apply Kd.V_drewN | apply Kd.V_drew)); exact HO304.out) (Kd.R_base ho0) hb); have n1_ := Aside0.mk (Kd.V_elder' (by (with_reducible repeat (first | apply Kd.V_alloc | apply Kd.V_drewN | apply Kd.V_drew)); exact HO311.out) (Kd.R_base ho0) hb); have n2_ := Aside0.mk (Kd.R_elder' (by (with_reducible repeat (first | apply Kd.R_alloc | apply Kd.R_drewN | apply Kd.R_drew)); exact HO316.out) (Kd.R_base ho0) hb); have n3_ := Aside0.mk (Kd.R_lower (Kd.R_newB (Kd.R_newB (Kd.R_newB (Kd.R_newB (Kd.R_new' (Kd.R_mono (ok' := fun k_ => True) ho0 (fun _ hk_ => trivial)) (Kd.R_lt (by (with_reducible repeat (first | apply Kd.R_alloc | apply Kd.R_drewN | apply Kd.R_drew)); exact HO316.out))) (g := gb297) (o := .cells #[.int .i64 a0_0, .int .i64 a0_1] 23 (0, 0)) (by (with_reducible repeat (first | refine blk_drewN ?_ _ | refine blk_drew ?_ | refine blk_alloc ?_ _)); exact BK297.out)) (g := gb298) (o := .cells #[.int .i64 a1_0, .int .i64 a1_1] 23 (0, 0)) (by (with_reducible repeat (first | refine blk_drewN ?_ _ | refine blk_drew ?_ | refine blk_alloc ?_ _)); exact BK298.out)) (g := gb306) (o := .cells #[.int .i64 t300, .int .i64 t301] 23 (0, 0)) (by (with_reducible repeat (first | refine blk_drewN ?_ _ | refine blk_drew ?_ | refine blk_alloc ?_ _)); exact BK306.out)) (g := gb313) (o := .cells #[.int .i64 t307, .int .i64 t308] 23 (0, 0)) (by (with_reducible repeat (first | refine blk_drewN ?_ _ | refine blk_drew ?_ | refine blk_alloc ?_ _)); exact BK313.out)) (below_size (by repeat (first | (with_reducible first | exact HB.out | apply below_alloc | apply pw_below_drewN | apply below_drew1 | refine below_set ?_ GE297.out | refine below_set ?_ GE298.out | refine below_set ?_ GE306.out | refine below_set ?_ GE313.out) | exact HB.out)))); have n4_ := Aside0.mk (blk_below (g := gb297) (o := .cells #[.int .i64 a0_0, .int .i64 a0_1] 23 (0, 0)) (by (with_reducible repeat (first | refine blk_drewN ?_ _ | refine blk_drew ?_ | refine blk_alloc ?_ _)); exact BK297.out) hb); have n5_ := Aside0.mk (blk_below (g := gb298) (o := .cells #[.int .i64 a1_0, .int .i64 a1_1] 23 (0, 0)) (by (with_reducible repeat (first | refine blk_drewN ?_ _ | refine blk_drew ?_ | refine blk_alloc ?_ _)); exact BK298.out) hb); have n6_ := Aside0.mk (blk_below (g := gb306) (o := .cells #[.int .i64 t300, .int .i64 t301] 23 (0, 0)) (by (with_reducible repeat (first | refine blk_drewN ?_ _ | refine blk_drew ?_ | refine blk_alloc ?_ _)); exact BK306.out) hb); have n7_ := Aside0.mk (blk_below (g := gb313) (o := .cells #[.int .i64 t307, .int .i64 t308] 23 (0, 0)) (by (with_reducible repeat (first | refine blk_drewN ?_ _ | refine blk_drew ?_ | refine blk_alloc ?_ _)); exact BK313.out) hb); have n8_ := Aside0.mk (below_step (by repeat (first | (with_reducible first | exact HB.out | apply below_alloc | apply pw_below_drewN | apply below_drew1 | refine below_set ?_ GE297.out | refine below_set ?_ GE298.out | refine below_set ?_ GE306.out | refine below_set ?_ GE313.out) | exact HB.out)) hb); clear HO304; clear HO311; clear HO316; clear BK297; clear BK298; clear BK306; clear BK313; clear HB; have HO304 := n0_; have HO311 := n1_; have HO316 := n2_; have HO320 := n3_; have BK297 := n4_; have BK298 := n5_; have BK306 := n6_; have BK313 := n7_; have HB := n8_; clear n0_ n1_ n2_ n3_ n4_ n5_ n6_ n7_ n8_; (try clear hb); (try clear hb2); (try clear hk); (try clear hi); (try clear ho0)) | ((with_reducible refine gate_callee (f := 15) rfl ?_); refine goesL_ (some 60) rfl rfl Tryd.func15 (by kernel_rfl) rfl #[.string a4] rfl (by (try simp only [List.map_toArray, List.map_cons, List.map_nil]); first | done | rfl | (simp only [List.length_drop, List.length_take]; rfl)) ?_; (with_reducible refine (prefix_Read.calls kj6 a4 t322 t323 t324 _ ?side1 A17.out).mono ?_); (case side1 => exact Tabs.below HT.out (by repeat (first | (with_reducible first | exact HB.out | apply below_alloc | apply pw_below_drewN | apply below_drew1 | refine below_set ?_ GE297.out | refine below_set ?_ GE298.out | refine below_set ?_ GE306.out | refine below_set ?_ GE313.out) | exact HB.out))); rintro e w35 ⟨rfl, hb⟩; refine ⟨_, rfl, ?_⟩; have n0_ := Aside0.mk (Kd.V_below (by (with_reducible repeat (first | apply Kd.V_alloc | apply Kd.V_drewN | apply Kd.V_drew)); exact HO304.out) hb); have n1_ := Aside0.mk (Kd.V_below (by (with_reducible repeat (first | apply Kd.V_alloc | apply Kd.V_drewN | apply Kd.V_drew)); exact HO311.out) hb); have n2_ := Aside0.mk (Kd.R_below (by (with_reducible repeat (first | apply Kd.R_alloc | apply Kd.R_drewN | apply Kd.R_drew)); exact HO316.out) hb); have n3_ := Aside0.mk (Kd.R_below (by (with_reducible repeat (first | apply Kd.R_alloc | apply Kd.R_drewN | apply Kd.R_drew)); exact HO320.out) hb); have n4_ := Aside0.mk (blk_below (g := gb297) (o := .cells #[.int .i64 a0_0, .int .i64 a0_1] 23 (0, 0)) (by (with_reducible repeat (first | refine blk_drewN ?_ _ | refine blk_drew ?_ | refine blk_alloc ?_ _)); exact BK297.out) hb); have n5_ := Aside0.mk (blk_below (g := gb298) (o := .cells #[.int .i64 a1_0, .int .i64 a1_1] 23 (0, 0)) (by (with_reducible repeat (first | refine blk_drewN ?_ _ | refine blk_drew ?_ | refine blk_alloc ?_ _)); exact BK298.out) hb); have n6_ := Aside0.mk (blk_below (g := gb306) (o := .cells #[.int .i64 t300, .int .i64 t301] 23 (0, 0)) (by (with_reducible repeat (first | refine blk_drewN ?_ _ | refine blk_drew ?_ | refine blk_alloc ?_ _)); exact BK306.out) hb); have n7_ := Aside0.mk (blk_below (g := gb313) (o := .cells #[.int .i64 t307, .int .i64 t308] 23 (0, 0)) (by (with_reducible repeat (first | refine blk_drewN ?_ _ | refine blk_drew ?_ | refine blk_alloc ?_ _)); exact BK313.out) hb); have n8_ := Aside0.mk (below_step (by repeat (first | (with_reducible first | exact HB.out | apply below_alloc | apply pw_below_drewN | apply below_drew1 | refine below_set ?_ GE297.out | refine below_set ?_ GE298.out | refine below_set ?_ GE306.out | refine below_set ?_ GE313.out) | exact HB.out)) hb); clear HO304; clear HO311; clear HO316; clear HO320; clear BK297; clear BK298; clear BK306; clear BK313; clear HB; have HO304 := n0_; have HO311 := n1_; have HO316 := n2_; have HO320 := n3_; have BK297 := n4_; have BK298 := n5_; have BK306 := n6_; have BK313 := n7_; have HB := n8_; clear n0_ n1_ n2_ n3_ n4_ n5_ n6_ n7_ n8_; (try clear hb); (try clear hb2); (try clear hk); (try clear hi)) | ((with_reducible refine gate_dst (N := 22) rfl ?_); (try (refine gate_guard (by rfl) ?_; dsimp only)); refine box_event ?hg (N := 22) ?hd (cs := #[.int .i64 0, .int .i64 0]) (t := 23) ?hr ?_; (case hd => rfl); (case hg => rfl); (case hr => first | (go_simp; done) | (go_simp; rfl)); intro gb325 hg w36 hbox hb; have n0_ := Aside0.mk (Kd.V_below (Kd.V_elderB (by (with_reducible repeat (first | apply Kd.V_alloc | apply Kd.V_drewN | apply Kd.V_drew)); exact HO304.out) gb325 (Nat.le_of_eq hg.symm)) hb); have n1_ := Aside0.mk (Kd.V_below (Kd.V_elderB (by (with_reducible repeat (first | apply Kd.V_alloc | apply Kd.V_drewN | apply Kd.V_drew)); exact HO311.out) gb325 (Nat.le_of_eq hg.symm)) hb); have n2_ := Aside0.mk (Kd.R_below (Kd.R_elderB (by (with_reducible repeat (first | apply Kd.R_alloc | apply Kd.R_drewN | apply Kd.R_drew)); exact HO316.out) gb325 (Nat.le_of_eq hg.symm)) hb); have n3_ := Aside0.mk (Kd.R_below (Kd.R_elderB (by (with_reducible repeat (first | apply Kd.R_alloc | apply Kd.R_drewN | apply Kd.R_drew)); exact HO320.out) gb325 (Nat.le_of_eq hg.symm)) hb); have n4_ := Aside0.mk (blk_below (g := gb297) (o := .cells #[.int .i64 a0_0, .int .i64 a0_1] 23 (0, 0)) (by (with_reducible repeat (first | refine blk_drewN ?_ _ | refine blk_drew ?_ | refine blk_alloc ?_ _)); exact BK297.out) hb); have n5_ := Aside0.mk (blk_below (g := gb298) (o := .cells #[.int .i64 a1_0, .int .i64 a1_1] 23 (0, 0)) (by (with_reducible repeat (first | refine blk_drewN ?_ _ | refine blk_drew ?_ | refine blk_alloc ?_ _)); exact BK298.out) hb); have n6_ := Aside0.mk (blk_below (g := gb306) (o := .cells #[.int .i64 t300, .int .i64 t301] 23 (0, 0)) (by (with_reducible repeat (first | refine blk_drewN ?_ _ | refine blk_drew ?_ | refine blk_alloc ?_ _)); exact BK306.out) hb); have n7_ := Aside0.mk (blk_below (g := gb313) (o := .cells #[.int .i64 t307, .int .i64 t308] 23 (0, 0)) (by (with_reducible repeat (first | refine blk_drewN ?_ _ | refine blk_drew ?_ | refine blk_alloc ?_ _)); exact BK313.out) hb); have n8_ := Aside0.mk (below_step (by repeat (first | (with_reducible first | exact HB.out | apply below_alloc | apply pw_below_drewN | apply below_drew1 | refine below_set ?_ GE297.out | refine below_set ?_ GE298.out | refine below_set ?_ GE306.out | refine below_set ?_ GE313.out) | exact HB.out)) hb); have n9_ := Aside0.mk (hbox); have n10_ := Aside0.mk ((by rw [hg]; exact (below_size (by repeat (first | (with_reducible first | exact HB.out | apply below_alloc | apply pw_below_drewN | apply below_drew1 | refine below_set ?_ GE297.out | refine below_set ?_ GE298.out | refine below_set ?_ GE306.out | refine below_set ?_ GE313.out) | exact HB.out))) : w.heap.size ≤ gb325)); have n11_ := Aside0.mk ((by rw [hg]; exact (below_size (by repeat (first | (with_reducible first | exact HB.out | apply below_alloc | apply pw_below_drewN | apply below_drew1 | refine below_set ?_ GE297.out | refine below_set ?_ GE298.out | refine below_set ?_ GE306.out | refine below_set ?_ GE313.out) | exact HB.out))) : w.heap.size ≤ gb325)); have n12_ := Aside0.mk ((by rw [hg]; exact Nat.ne_of_lt (blk_lt (g := gb297) (o := .cells #[.int .i64 a0_0, .int .i64 a0_1] 23 (0, 0)) (by (with_reducible repeat (first | refine blk_drewN ?_ _ | refine blk_drew ?_ | refine blk_alloc ?_ _)); exact BK297.out)) : gb297 ≠ gb325)); have n13_ := Aside0.mk ((by rw [hg]; exact Nat.ne_of_gt (blk_lt (g := gb297) (o := .cells #[.int .i64 a0_0, .int .i64 a0_1] 23 (0, 0)) (by (with_reducible repeat (first | refine blk_drewN ?_ _ | refine blk_drew ?_ | refine blk_alloc ?_ _)); exact BK297.out)) : gb325 ≠ gb297)); have n14_ := Aside0.mk ((by rw [hg]; exact Nat.ne_of_lt (blk_lt (g := gb298) (o := .cells #[.int .i64 a1_0, .int .i64 a1_1] 23 (0, 0)) (by (with_reducible repeat (first | refine blk_drewN ?_ _ | refine blk_drew ?_ | refine blk_alloc ?_ _)); exact BK298.out)) : gb298 ≠ gb325)); have n15_ := Aside0.mk ((by rw [hg]; exact Nat.ne_of_gt (blk_lt (g := gb298) (o := .cells #[.int .i64 a1_0, .int .i64 a1_1] 23 (0, 0)) (by (with_reducible repeat (first | refine blk_drewN ?_ _ | refine blk_drew ?_ | refine blk_alloc ?_ _)); exact BK298.out)) : gb325 ≠ gb298)); have n16_ := Aside0.mk ((by rw [hg]; exact Nat.ne_of_lt (blk_lt (g := gb306) (o := .cells #[.int .i64 t300, .int .i64 t301] 23 (0, 0)) (by (with_reducible repeat (first | refine blk_drewN ?_ _ | refine blk_drew ?_ | refine blk_alloc ?_ _)); exact BK306.out)) : gb306 ≠ gb325)); have n17_ := Aside0.mk ((by rw [hg]; exact Nat.ne_of_gt (blk_lt (g := gb306) (o := .cells #[.int .i64 t300, .int .i64 t301] 23 (0, 0)) (by (with_reducible repeat (first | refine blk_drewN ?_ _ | refine blk_drew ?_ | refine blk_alloc ?_ _)); exact BK306.out)) : gb325 ≠ gb306)); have n18_ := Aside0.mk ((by rw [hg]; exact Nat.ne_of_lt (blk_lt (g := gb313) (o := .cells #[.int .i64 t307, .int .i64 t308] 23 (0, 0)) (by (with_reducible repeat (first | refine blk_drewN ?_ _ | refine blk_drew ?_ | refine blk_alloc ?_ _)); exact BK313.out)) : gb313 ≠ gb325)); have n19_ := Aside0.mk ((by rw [hg]; exact Nat.ne_of_gt (blk_lt (g := gb313) (o := .cells #[.int .i64 t307, .int .i64 t308] 23 (0, 0)) (by (with_reducible repeat (first | refine blk_drewN ?_ _ | refine blk_drew ?_ | refine blk_alloc ?_ _)); exact BK313.out)) : gb325 ≠ gb313)); clear HO304; clear HO311; clear HO316; clear HO320; clear BK297; clear BK298; clear BK306; clear BK313; clear HB; have HO304 := n0_; have HO311 := n1_; have HO316 := n2_; have HO320 := n3_; have BK297 := n4_; have BK298 := n5_; have BK306 := n6_; have BK313 := n7_; have HB := n8_; have BK325 := n9_; have GW325 := n10_; have GE325 := n11_; have NB297_325 := n12_; have NB325_297 := n13_; have NB298_325 := n14_; have NB325_298 := n15_; have NB306_325 := n16_; have NB325_306 := n17_; have NB313_325 := n18_; have NB325_313 := n19_; clear n0_ n1_ n2_ n3_ n4_ n5_ n6_ n7_ n8_ n9_ n10_ n11_ n12_ n13_ n14_ n15_ n16_ n17_ n18_ n19_; clear hb hbox hg; have hnb37 := NB325_297.out; have hnc37 := NB297_325.out; have hnb38 := NB325_298.out; have hnc38 := NB298_325.out; have hnb39 := NB325_306.out; have hnc39 := NB306_325.out; have hnb40 := NB325_313.out; have hnc40 := NB313_325.out; have hcz41_0 : w36.cell? ⟨gb325, 0, none⟩ = some (.int .i64 0) := (blk_cell BK325.out 0).trans rfl; have hcz41_1 : w36.cell? ⟨gb325, 1, none⟩ = some (.int .i64 0) := (blk_cell BK325.out 1).trans rfl; have hfz41_0 := blk_frozen BK325.out 0; have hfz41_1 := blk_frozen BK325.out 1) | ((with_reducible refine gate_callee (f := 16) rfl ?_); refine goesL_ (some 65) rfl rfl Tryd.func16 (by kernel_rfl) rfl #[.string a4] rfl (by (try simp only [List.map_toArray, List.map_cons, List.map_nil]); first | done | rfl | (simp only [List.length_drop, List.length_take]; rfl)) ?_; (with_reducible refine (ridgewayref02_Read.calls kj6 a4 t326 t327 t328 _ A18.out).mono ?_); rintro e w42 ⟨rfl, hb⟩; refine ⟨_, rfl, ?_⟩; have n0_ := Aside0.mk (Kd.V_below (by (with_reducible repeat (first | apply Kd.V_alloc | apply Kd.V_drewN | apply Kd.V_drew)); exact (Kd.V_mono (Kd.V_far (p := ⟨gb325, 1, none⟩) (Kd.V_far (p := ⟨gb325, 0, none⟩) (Kd.V_mono HO304.out (fun k_ hk => (⟨hk, hk.2⟩ : _ ∧ k_ ≠ gb325))) (fun _ hk => hk.2) (.int .i64 t322)) (fun _ hk => hk.2) (.int .i64 t323)) (fun _ h_ => h_.1))) hb); have n1_ := Aside0.mk (Kd.V_below (by (with_reducible repeat (first | apply Kd.V_alloc | apply Kd.V_drewN | apply Kd.V_drew)); exact (Kd.V_mono (Kd.V_far (p := ⟨gb325, 1, none⟩) (Kd.V_far (p := ⟨gb325, 0, none⟩) (Kd.V_mono HO311.out (fun k_ hk => (⟨hk, hk.2⟩ : _ ∧ k_ ≠ gb325))) (fun _ hk => hk.2) (.int .i64 t322)) (fun _ hk => hk.2) (.int .i64 t323)) (fun _ h_ => h_.1))) hb); have n2_ := Aside0.mk (Kd.R_below (by (with_reducible repeat (first | apply Kd.R_alloc | apply Kd.R_drewN | apply Kd.R_drew)); exact (Kd.R_mono (Kd.R_far (p := ⟨gb325, 1, none⟩) (Kd.R_far (p := ⟨gb325, 0, none⟩) (Kd.R_mono HO316.out (fun k_ hk => (⟨hk, hk.2⟩ : _ ∧ k_ ≠ gb325))) (fun _ hk => hk.2) (.int .i64 t322)) (fun _ hk => hk.2) (.int .i64 t323)) (fun _ h_ => h_.1))) hb); have n3_ := Aside0.mk (Kd.R_below (by (with_reducible repeat (first | apply Kd.R_alloc | apply Kd.R_drewN | apply Kd.R_drew)); exact (Kd.R_mono (Kd.R_far (p := ⟨gb325, 1, none⟩) (Kd.R_far (p := ⟨gb325, 0, none⟩) (Kd.R_mono HO320.out (fun k_ hk => (⟨hk, hk.2⟩ : _ ∧ k_ ≠ gb325))) (fun _ hk => hk.2) (.int .i64 t322)) (fun _ hk => hk.2) (.int .i64 t323)) (fun _ h_ => h_.1))) hb); have n4_ := Aside0.mk (blk_below (g := gb297) (o := .cells #[.int .i64 a0_0, .int .i64 a0_1] 23 (0, 0)) (by (with_reducible repeat (first | refine blk_drewN ?_ _ | refine blk_drew ?_ | refine blk_alloc ?_ _)); refine blk_far ?_ NB297_325.out _; (with_reducible repeat (first | refine blk_drewN ?_ _ | refine blk_drew ?_ | refine blk_alloc ?_ _)); refine blk_far ?_ NB297_325.out _; (with_reducible repeat (first | refine blk_drewN ?_ _ | refine blk_drew ?_ | refine blk_alloc ?_ _)); exact BK297.out) hb); have n5_ := Aside0.mk (blk_below (g := gb298) (o := .cells #[.int .i64 a1_0, .int .i64 a1_1] 23 (0, 0)) (by (with_reducible repeat (first | refine blk_drewN ?_ _ | refine blk_drew ?_ | refine blk_alloc ?_ _)); refine blk_far ?_ NB298_325.out _; (with_reducible repeat (first | refine blk_drewN ?_ _ | refine blk_drew ?_ | refine blk_alloc ?_ _)); refine blk_far ?_ NB298_325.out _; (with_reducible repeat (first | refine blk_drewN ?_ _ | refine blk_drew ?_ | refine blk_alloc ?_ _)); exact BK298.out) hb); have n6_ := Aside0.mk (blk_below (g := gb306) (o := .cells #[.int .i64 t300, .int .i64 t301] 23 (0, 0)) (by (with_reducible repeat (first | refine blk_drewN ?_ _ | refine blk_drew ?_ | refine blk_alloc ?_ _)); refine blk_far ?_ NB306_325.out _; (with_reducible repeat (first | refine blk_drewN ?_ _ | refine blk_drew ?_ | refine blk_alloc ?_ _)); refine blk_far ?_ NB306_325.out _; (with_reducible repeat (first | refine blk_drewN ?_ _ | refine blk_drew ?_ | refine blk_alloc ?_ _)); exact BK306.out) hb); have n7_ := Aside0.mk (blk_below (g := gb313) (o := .cells #[.int .i64 t307, .int .i64 t308] 23 (0, 0)) (by (with_reducible repeat (first | refine blk_drewN ?_ _ | refine blk_drew ?_ | refine blk_alloc ?_ _)); refine blk_far ?_ NB313_325.out _; (with_reducible repeat (first | refine blk_drewN ?_ _ | refine blk_drew ?_ | refine blk_alloc ?_ _)); refine blk_far ?_ NB313_325.out _; (with_reducible repeat (first | refine blk_drewN ?_ _ | refine blk_drew ?_ | refine blk_alloc ?_ _)); exact BK313.out) hb); have n8_ := Aside0.mk (blk_below (g := gb325) (o := .cells #[.int .i64 t322, .int .i64 t323] 23 (0, 0)) (by (with_reducible repeat (first | refine blk_drewN ?_ _ | refine blk_drew ?_ | refine blk_alloc ?_ _)); refine blk_put (cs := #[.int .i64 t322, .int .i64 0]) ?_ 1 _ rfl; (with_reducible repeat (first | refine blk_drewN ?_ _ | refine blk_drew ?_ | refine blk_alloc ?_ _)); refine blk_put (cs := #[.int .i64 0, .int .i64 0]) ?_ 0 _ rfl; (with_reducible repeat (first | refine blk_drewN ?_ _ | refine blk_drew ?_ | refine blk_alloc ?_ _)); exact BK325.out) hb); have n9_ := Aside0.mk (below_step (by repeat (first | (with_reducible first | exact HB.out | apply below_alloc | apply pw_below_drewN | apply below_drew1 | refine below_set ?_ GE297.out | refine below_set ?_ GE298.out | refine below_set ?_ GE306.out | refine below_set ?_ GE313.out | refine below_set ?_ GE325.out) | exact HB.out)) hb); clear HO304; clear HO311; clear HO316; clear HO320; clear BK297; clear BK298; clear BK306; clear BK313; clear BK325; clear HB; have HO304 := n0_; have HO311 := n1_; have HO316 := n2_; have HO320 := n3_; have BK297 := n4_; have BK298 := n5_; have BK306 := n6_; have BK313 := n7_; have BK325 := n8_; have HB := n9_; clear n0_ n1_ n2_ n3_ n4_ n5_ n6_ n7_ n8_ n9_; (try clear hb); (try clear hb2); (try clear hk); (try clear hi)) | ((with_reducible refine gate_dst (N := 24) rfl ?_); (try (refine gate_guard (by rfl) ?_; dsimp only)); refine box_event ?hg (N := 24) ?hd (cs := #[.int .i64 0, .int .i64 0]) (t := 23) ?hr ?_; (case hd => rfl); (case hg => rfl); (case hr => first | (go_simp; done) | (go_simp; rfl)); intro gb329 hg w43 hbox hb; have n0_ := Aside0.mk (Kd.V_below (Kd.V_elderB (by (with_reducible repeat (first | apply Kd.V_alloc | apply Kd.V_drewN | apply Kd.V_drew)); exact HO304.out) gb329 (Nat.le_of_eq hg.symm)) hb); have n1_ := Aside0.mk (Kd.V_below (Kd.V_elderB (by (with_reducible repeat (first | apply Kd.V_alloc | apply Kd.V_drewN | apply Kd.V_drew)); exact HO311.out) gb329 (Nat.le_of_eq hg.symm)) hb); have n2_ := Aside0.mk (Kd.R_below (Kd.R_elderB (by (with_reducible repeat (first | apply Kd.R_alloc | apply Kd.R_drewN | apply Kd.R_drew)); exact HO316.out) gb329 (Nat.le_of_eq hg.symm)) hb); have n3_ := Aside0.mk (Kd.R_below (Kd.R_elderB (by (with_reducible repeat (first | apply Kd.R_alloc | apply Kd.R_drewN | apply Kd.R_drew)); exact HO320.out) gb329 (Nat.le_of_eq hg.symm)) hb); have n4_ := Aside0.mk (blk_below (g := gb297) (o := .cells #[.int .i64 a0_0, .int .i64 a0_1] 23 (0, 0)) (by (with_reducible repeat (first | refine blk_drewN ?_ _ | refine blk_drew ?_ | refine blk_alloc ?_ _)); exact BK297.out) hb); have n5_ := Aside0.mk (blk_below (g := gb298) (o := .cells #[.int .i64 a1_0, .int .i64 a1_1] 23 (0, 0)) (by (with_reducible repeat (first | refine blk_drewN ?_ _ | refine blk_drew ?_ | refine blk_alloc ?_ _)); exact BK298.out) hb); have n6_ := Aside0.mk (blk_below (g := gb306) (o := .cells #[.int .i64 t300, .int .i64 t301] 23 (0, 0)) (by (with_reducible repeat (first | refine blk_drewN ?_ _ | refine blk_drew ?_ | refine blk_alloc ?_ _)); exact BK306.out) hb); have n7_ := Aside0.mk (blk_below (g := gb313) (o := .cells #[.int .i64 t307, .int .i64 t308] 23 (0, 0)) (by (with_reducible repeat (first | refine blk_drewN ?_ _ | refine blk_drew ?_ | refine blk_alloc ?_ _)); exact BK313.out) hb); have n8_ := Aside0.mk (blk_below (g := gb325) (o := .cells #[.int .i64 t322, .int .i64 t323] 23 (0, 0)) (by (with_reducible repeat (first | refine blk_drewN ?_ _ | refine blk_drew ?_ | refine blk_alloc ?_ _)); exact BK325.out) hb); have n9_ := Aside0.mk (below_step (by repeat (first | (with_reducible first | exact HB.out | apply below_alloc | apply pw_below_drewN | apply below_drew1 | refine below_set ?_ GE297.out | refine below_set ?_ GE298.out | refine below_set ?_ GE306.out | refine below_set ?_ GE313.out | refine below_set ?_ GE325.out) | exact HB.out)) hb); have n10_ := Aside0.mk (hbox); have n11_ := Aside0.mk ((by rw [hg]; exact (below_size (by repeat (first | (with_reducible first | exact HB.out | apply below_alloc | apply pw_below_drewN | apply below_drew1 | refine below_set ?_ GE297.out | refine below_set ?_ GE298.out | refine below_set ?_ GE306.out | refine below_set ?_ GE313.out | refine below_set ?_ GE325.out) | exact HB.out))) : w.heap.size ≤ gb329)); have n12_ := Aside0.mk ((by rw [hg]; exact (below_size (by repeat (first | (with_reducible first | exact HB.out | apply below_alloc | apply pw_below_drewN | apply below_drew1 | refine below_set ?_ GE297.out | refine below_set ?_ GE298.out | refine below_set ?_ GE306.out | refine below_set ?_ GE313.out | refine below_set ?_ GE325.out) | exact HB.out))) : w.heap.size ≤ gb329)); have n13_ := Aside0.mk ((by rw [hg]; exact Nat.ne_of_lt (blk_lt (g := gb297) (o := .cells #[.int .i64 a0_0, .int .i64 a0_1] 23 (0, 0)) (by (with_reducible repeat (first | refine blk_drewN ?_ _ | refine blk_drew ?_ | refine blk_alloc ?_ _)); exact BK297.out)) : gb297 ≠ gb329)); have n14_ := Aside0.mk ((by rw [hg]; exact Nat.ne_of_gt (blk_lt (g := gb297) (o := .cells #[.int .i64 a0_0, .int .i64 a0_1] 23 (0, 0)) (by (with_reducible repeat (first | refine blk_drewN ?_ _ | refine blk_drew ?_ | refine blk_alloc ?_ _)); exact BK297.out)) : gb329 ≠ gb297)); have n15_ := Aside0.mk ((by rw [hg]; exact Nat.ne_of_lt (blk_lt (g := gb298) (o := .cells #[.int .i64 a1_0, .int .i64 a1_1] 23 (0, 0)) (by (with_reducible repeat (first | refine blk_drewN ?_ _ | refine blk_drew ?_ | refine blk_alloc ?_ _)); exact BK298.out)) : gb298 ≠ gb329)); have n16_ := Aside0.mk ((by rw [hg]; exact Nat.ne_of_gt (blk_lt (g := gb298) (o := .cells #[.int .i64 a1_0, .int .i64 a1_1] 23 (0, 0)) (by (with_reducible repeat (first | refine blk_drewN ?_ _ | refine blk_drew ?_ | refine blk_alloc ?_ _)); exact BK298.out)) : gb329 ≠ gb298)); have n17_ := Aside0.mk ((by rw [hg]; exact Nat.ne_of_lt (blk_lt (g := gb306) (o := .cells #[.int .i64 t300, .int .i64 t301] 23 (0, 0)) (by (with_reducible repeat (first | refine blk_drewN ?_ _ | refine blk_drew ?_ | refine blk_alloc ?_ _)); exact BK306.out)) : gb306 ≠ gb329)); have n18_ := Aside0.mk ((by rw [hg]; exact Nat.ne_of_gt (blk_lt (g := gb306) (o := .cells #[.int .i64 t300, .int .i64 t301] 23 (0, 0)) (by (with_reducible repeat (first | refine blk_drewN ?_ _ | refine blk_drew ?_ | refine blk_alloc ?_ _)); exact BK306.out)) : gb329 ≠ gb306)); have n19_ := Aside0.mk ((by rw [hg]; exact Nat.ne_of_lt (blk_lt (g := gb313) (o := .cells #[.int .i64 t307, .int .i64 t308] 23 (0, 0)) (by (with_reducible repeat (first | refine blk_drewN ?_ _ | refine blk_drew ?_ | refine blk_alloc ?_ _)); exact BK313.out)) : gb313 ≠ gb329)); have n20_ := Aside0.mk ((by rw [hg]; exact Nat.ne_of_gt (blk_lt (g := gb313) (o := .cells #[.int .i64 t307, .int .i64 t308] 23 (0, 0)) (by (with_reducible repeat (first | refine blk_drewN ?_ _ | refine blk_drew ?_ | refine blk_alloc ?_ _)); exact BK313.out)) : gb329 ≠ gb313)); have n21_ := Aside0.mk ((by rw [hg]; exact Nat.ne_of_lt (blk_lt (g := gb325) (o := .cells #[.int .i64 t322, .int .i64 t323] 23 (0, 0)) (by (with_reducible repeat (first | refine blk_drewN ?_ _ | refine blk_drew ?_ | refine blk_alloc ?_ _)); exact BK325.out)) : gb325 ≠ gb329)); have n22_ := Aside0.mk ((by rw [hg]; exact Nat.ne_of_gt (blk_lt (g := gb325) (o := .cells #[.int .i64 t322, .int .i64 t323] 23 (0, 0)) (by (with_reducible repeat (first | refine blk_drewN ?_ _ | refine blk_drew ?_ | refine blk_alloc ?_ _)); exact BK325.out)) : gb329 ≠ gb325)); clear HO304; clear HO311; clear HO316; clear HO320; clear BK297; clear BK298; clear BK306; clear BK313; clear BK325; clear HB; have HO304 := n0_; have HO311 := n1_; have HO316 := n2_; have HO320 := n3_; have BK297 := n4_; have BK298 := n5_; have BK306 := n6_; have BK313 := n7_; have BK325 := n8_; have HB := n9_; have BK329 := n10_; have GW329 := n11_; have GE329 := n12_; have NB297_329 := n13_; have NB329_297 := n14_; have NB298_329 := n15_; have NB329_298 := n16_; have NB306_329 := n17_; have NB329_306 := n18_; have NB313_329 := n19_; have NB329_313 := n20_; have NB325_329 := n21_; have NB329_325 := n22_; clear n0_ n1_ n2_ n3_ n4_ n5_ n6_ n7_ n8_ n9_ n10_ n11_ n12_ n13_ n14_ n15_ n16_ n17_ n18_ n19_ n20_ n21_ n22_; clear hb hbox hg; have hnb44 := NB329_297.out; have hnc44 := NB297_329.out; have hnb45 := NB329_298.out; have hnc45 := NB298_329.out; have hnb46 := NB329_306.out; have hnc46 := NB306_329.out; have hnb47 := NB329_313.out; have hnc47 := NB313_329.out; have hnb48 := NB329_325.out; have hnc48 := NB325_329.out; have hcz49_0 : w43.cell? ⟨gb329, 0, none⟩ = some (.int .i64 0) := (blk_cell BK329.out 0).trans rfl; have hcz49_1 : w43.cell? ⟨gb329, 1, none⟩ = some (.int .i64 0) := (blk_cell BK329.out 1).trans rfl; have hfz49_0 := blk_frozen BK329.out 0; have hfz49_1 := blk_frozen BK329.out 1))
    (try simp only [Act.put, q14a, q14b, q14c])
    go_cut [103] (fun v103 wc => ∃ (kq : Nat) (x103_18 : Bool), v103 = .bool x103_18 ∧ Aside0 (ridgewaylaw02_PrefixIs.j1 kq a2 l3 t299 x103_18 a0_0 a0_1 a1_0 a1_1 = some r) ∧ Aside0 (kq ≤ kj6) ∧ Aside0 (wc.heap[gb297]? = some (.cells #[.int .i64 a0_0, .int .i64 a0_1] 23 (0, 0))) ∧ Aside0 (wc.heap[gb298]? = some (.cells #[.int .i64 a1_0, .int .i64 a1_1] 23 (0, 0))) ∧ Aside0 (wc.heap[gb306]? = some (.cells #[.int .i64 t300, .int .i64 t301] 23 (0, 0))) ∧ Aside0 (wc.heap[gb313]? = some (.cells #[.int .i64 t307, .int .i64 t308] 23 (0, 0))) ∧ Aside0 (wc.heap[gb325]? = some (.cells #[.int .i64 t322, .int .i64 t323] 23 (0, 0))) ∧ Aside0 (wc.heap[gb329]? = some (.cells #[.int .i64 t326, .int .i64 t327] 23 (0, 0))) ∧ Aside0 (Below w.heap.size w wc))
    case first =>
     have H := HC19.out
     clear HC19
     by_cases c50 : (!(t300 == t307) || (!(t301 == t308))) = true
     ·rw [if_pos c50] at H
      have c50b0 : (!(t300 == t307) || (!(t301 == t308))) = true := c50
      clear c50
      (first | (rw [c50b0]; (try clear c50b0); (try clear c50b1); (try clear c50b2); (try clear c50b3)) | skip)
      have H' := Aside0.mk H
      clear H
      have hnb51 := NB306_297.out
      have hnc51 := NB297_306.out
      have hnb52 := NB306_298.out
      have hnc52 := NB298_306.out
      have hnb53 := NB306_313.out
      have hnc53 := NB313_306.out
      have hnb54 := NB306_325.out
      have hnc54 := NB325_306.out
      have hnb55 := NB306_329.out
      have hnc55 := NB329_306.out
      have hcz56_0 : w43.cell? ⟨gb306, 0, none⟩ = some (.int .i64 t300) := (blk_cell BK306.out 0).trans rfl
      have hcz56_1 : w43.cell? ⟨gb306, 1, none⟩ = some (.int .i64 t301) := (blk_cell BK306.out 1).trans rfl
      have hfz56_0 := blk_frozen BK306.out 0
      have hfz56_1 := blk_frozen BK306.out 1
      have hnb57 := NB313_297.out
      have hnc57 := NB297_313.out
      have hnb58 := NB313_298.out
      have hnc58 := NB298_313.out
      have hnb59 := NB313_325.out
      have hnc59 := NB325_313.out
      have hnb60 := NB313_329.out
      have hnc60 := NB329_313.out
      have hcz61_0 : w43.cell? ⟨gb313, 0, none⟩ = some (.int .i64 t307) := (blk_cell BK313.out 0).trans rfl
      have hcz61_1 : w43.cell? ⟨gb313, 1, none⟩ = some (.int .i64 t308) := (blk_cell BK313.out 1).trans rfl
      have hfz61_0 := blk_frozen BK313.out 0
      have hfz61_1 := blk_frozen BK313.out 1
      go_wp2
      go_meet
      case rel => exact ⟨_, (true), (by first | rfl | (simp; done) | (simp [*]; done)), H', ⟨by have := HJ6.out; first | omega | exact Nat.le_refl _⟩, ⟨by (with_reducible repeat (first | refine blk_drewN ?_ _ | refine blk_drew ?_ | refine blk_alloc ?_ _)); refine blk_far ?_ NB297_329.out _; (with_reducible repeat (first | refine blk_drewN ?_ _ | refine blk_drew ?_ | refine blk_alloc ?_ _)); refine blk_far ?_ NB297_329.out _; (with_reducible repeat (first | refine blk_drewN ?_ _ | refine blk_drew ?_ | refine blk_alloc ?_ _)); exact BK297.out⟩, ⟨by (with_reducible repeat (first | refine blk_drewN ?_ _ | refine blk_drew ?_ | refine blk_alloc ?_ _)); refine blk_far ?_ NB298_329.out _; (with_reducible repeat (first | refine blk_drewN ?_ _ | refine blk_drew ?_ | refine blk_alloc ?_ _)); refine blk_far ?_ NB298_329.out _; (with_reducible repeat (first | refine blk_drewN ?_ _ | refine blk_drew ?_ | refine blk_alloc ?_ _)); exact BK298.out⟩, ⟨by (with_reducible repeat (first | refine blk_drewN ?_ _ | refine blk_drew ?_ | refine blk_alloc ?_ _)); refine blk_far ?_ NB306_329.out _; (with_reducible repeat (first | refine blk_drewN ?_ _ | refine blk_drew ?_ | refine blk_alloc ?_ _)); refine blk_far ?_ NB306_329.out _; (with_reducible repeat (first | refine blk_drewN ?_ _ | refine blk_drew ?_ | refine blk_alloc ?_ _)); exact BK306.out⟩, ⟨by (with_reducible repeat (first | refine blk_drewN ?_ _ | refine blk_drew ?_ | refine blk_alloc ?_ _)); refine blk_far ?_ NB313_329.out _; (with_reducible repeat (first | refine blk_drewN ?_ _ | refine blk_drew ?_ | refine blk_alloc ?_ _)); refine blk_far ?_ NB313_329.out _; (with_reducible repeat (first | refine blk_drewN ?_ _ | refine blk_drew ?_ | refine blk_alloc ?_ _)); exact BK313.out⟩, ⟨by (with_reducible repeat (first | refine blk_drewN ?_ _ | refine blk_drew ?_ | refine blk_alloc ?_ _)); refine blk_far ?_ NB325_329.out _; (with_reducible repeat (first | refine blk_drewN ?_ _ | refine blk_drew ?_ | refine blk_alloc ?_ _)); refine blk_far ?_ NB325_329.out _; (with_reducible repeat (first | refine blk_drewN ?_ _ | refine blk_drew ?_ | refine blk_alloc ?_ _)); exact BK325.out⟩, ⟨by (with_reducible repeat (first | refine blk_drewN ?_ _ | refine blk_drew ?_ | refine blk_alloc ?_ _)); refine blk_put (cs := #[.int .i64 t326, .int .i64 0]) ?_ 1 _ rfl; (with_reducible repeat (first | refine blk_drewN ?_ _ | refine blk_drew ?_ | refine blk_alloc ?_ _)); refine blk_put (cs := #[.int .i64 0, .int .i64 0]) ?_ 0 _ rfl; (with_reducible repeat (first | refine blk_drewN ?_ _ | refine blk_drew ?_ | refine blk_alloc ?_ _)); exact BK329.out⟩, ⟨by repeat (first | (with_reducible first | exact HB.out | apply below_alloc | apply pw_below_drewN | apply below_drew1 | refine below_set ?_ GE297.out | refine below_set ?_ GE298.out | refine below_set ?_ GE306.out | refine below_set ?_ GE313.out | refine below_set ?_ GE325.out | refine below_set ?_ GE329.out) | exact HB.out)⟩⟩
     ·rw [if_neg c50] at H
      have c50b0 : (!(t300 == t307) || (!(t301 == t308))) = false := by simpa using c50
      clear c50
      (first | (rw [c50b0]; (try clear c50b0); (try clear c50b1); (try clear c50b2); (try clear c50b3)) | skip)
      by_cases c62 : (strOfNums t302).toList = (strOfNums t309).toList
      ·rw [if_pos c62] at H
       have c62b0 : ((strOfNums t302).toList == (strOfNums t309).toList) = true := beq_iff_eq.mpr c62
       have c62b1 : ((strOfNums t302).toList != (strOfNums t309).toList) = false := bne_eq_false_iff_eq.mpr c62
       clear c62
       by_cases c63 : (t305 != t312) = true
       ·rw [if_pos c63] at H
        have c63b0 : (t305 != t312) = true := c63
        (try (have c63b1 : decide (t305 = t312) = false := by simpa using c63))
        (try (have c63b2 : (t305 == t312) = false := by simpa using c63))
        (try (have c63b3 : ¬ (t305 = t312) := by simpa using c63))
        clear c63
        have H' := Aside0.mk H
        clear H
        have hnb64 := NB306_297.out
        have hnc64 := NB297_306.out
        have hnb65 := NB306_298.out
        have hnc65 := NB298_306.out
        have hnb66 := NB306_313.out
        have hnc66 := NB313_306.out
        have hnb67 := NB306_325.out
        have hnc67 := NB325_306.out
        have hnb68 := NB306_329.out
        have hnc68 := NB329_306.out
        have hcz69_0 : w43.cell? ⟨gb306, 0, none⟩ = some (.int .i64 t300) := (blk_cell BK306.out 0).trans rfl
        have hcz69_1 : w43.cell? ⟨gb306, 1, none⟩ = some (.int .i64 t301) := (blk_cell BK306.out 1).trans rfl
        have hfz69_0 := blk_frozen BK306.out 0
        have hfz69_1 := blk_frozen BK306.out 1
        have hnb70 := NB313_297.out
        have hnc70 := NB297_313.out
        have hnb71 := NB313_298.out
        have hnc71 := NB298_313.out
        have hnb72 := NB313_325.out
        have hnc72 := NB325_313.out
        have hnb73 := NB313_329.out
        have hnc73 := NB329_313.out
        have hcz74_0 : w43.cell? ⟨gb313, 0, none⟩ = some (.int .i64 t307) := (blk_cell BK313.out 0).trans rfl
        have hcz74_1 : w43.cell? ⟨gb313, 1, none⟩ = some (.int .i64 t308) := (blk_cell BK313.out 1).trans rfl
        have hfz74_0 := blk_frozen BK313.out 0
        have hfz74_1 := blk_frozen BK313.out 1
        have hcv75 : (convert 24 9 v303).run Tryd.prog ((w43.setCell ⟨gb329, 0, none⟩ (.int .i64 t326)).setCell ⟨gb329, 1, none⟩ (.int .i64 t327)) = .ok (.string (strOfNums t302)) ((w43.setCell ⟨gb329, 0, none⟩ (.int .i64 t326)).setCell ⟨gb329, 1, none⟩ (.int .i64 t327)) := V_string Tryd.underlying24 Tryd.underlying5 Tryd.underlying9 (by (with_reducible repeat (first | apply Kd.V_alloc | apply Kd.V_drewN | apply Kd.V_drew)); exact (Kd.V_mono (Kd.V_far (p := ⟨gb329, 1, none⟩) (Kd.V_far (p := ⟨gb329, 0, none⟩) (Kd.V_mono HO304.out (fun k_ hk => (⟨hk, hk.2⟩ : _ ∧ k_ ≠ gb329))) (fun _ hk => hk.2) (.int .i64 t326)) (fun _ hk => hk.2) (.int .i64 t327)) (fun _ h_ => h_.1)))
        have hcv76 : (convert 24 9 v310).run Tryd.prog ((w43.setCell ⟨gb329, 0, none⟩ (.int .i64 t326)).setCell ⟨gb329, 1, none⟩ (.int .i64 t327)) = .ok (.string (strOfNums t309)) ((w43.setCell ⟨gb329, 0, none⟩ (.int .i64 t326)).setCell ⟨gb329, 1, none⟩ (.int .i64 t327)) := V_string Tryd.underlying24 Tryd.underlying5 Tryd.underlying9 (by (with_reducible repeat (first | apply Kd.V_alloc | apply Kd.V_drewN | apply Kd.V_drew)); exact (Kd.V_mono (Kd.V_far (p := ⟨gb329, 1, none⟩) (Kd.V_far (p := ⟨gb329, 0, none⟩) (Kd.V_mono HO311.out (fun k_ hk => (⟨hk, hk.2⟩ : _ ∧ k_ ≠ gb329))) (fun _ hk => hk.2) (.int .i64 t326)) (fun _ hk => hk.2) (.int .i64 t327)) (fun _ h_ => h_.1)))
        go_wp2
        go_meet
        case rel => exact ⟨_, (true), (by first | rfl | (simp; done) | (simp [*]; done)), H', ⟨by have := HJ6.out; first | omega | exact Nat.le_refl _⟩, ⟨by (with_reducible repeat (first | refine blk_drewN ?_ _ | refine blk_drew ?_ | refine blk_alloc ?_ _)); refine blk_far ?_ NB297_329.out _; (with_reducible repeat (first | refine blk_drewN ?_ _ | refine blk_drew ?_ | refine blk_alloc ?_ _)); refine blk_far ?_ NB297_329.out _; (with_reducible repeat (first | refine blk_drewN ?_ _ | refine blk_drew ?_ | refine blk_alloc ?_ _)); exact BK297.out⟩, ⟨by (with_reducible repeat (first | refine blk_drewN ?_ _ | refine blk_drew ?_ | refine blk_alloc ?_ _)); refine blk_far ?_ NB298_329.out _; (with_reducible repeat (first | refine blk_drewN ?_ _ | refine blk_drew ?_ | refine blk_alloc ?_ _)); refine blk_far ?_ NB298_329.out _; (with_reducible repeat (first | refine blk_drewN ?_ _ | refine blk_drew ?_ | refine blk_alloc ?_ _)); exact BK298.out⟩, ⟨by (with_reducible repeat (first | refine blk_drewN ?_ _ | refine blk_drew ?_ | refine blk_alloc ?_ _)); refine blk_far ?_ NB306_329.out _; (with_reducible repeat (first | refine blk_drewN ?_ _ | refine blk_drew ?_ | refine blk_alloc ?_ _)); refine blk_far ?_ NB306_329.out _; (with_reducible repeat (first | refine blk_drewN ?_ _ | refine blk_drew ?_ | refine blk_alloc ?_ _)); exact BK306.out⟩, ⟨by (with_reducible repeat (first | refine blk_drewN ?_ _ | refine blk_drew ?_ | refine blk_alloc ?_ _)); refine blk_far ?_ NB313_329.out _; (with_reducible repeat (first | refine blk_drewN ?_ _ | refine blk_drew ?_ | refine blk_alloc ?_ _)); refine blk_far ?_ NB313_329.out _; (with_reducible repeat (first | refine blk_drewN ?_ _ | refine blk_drew ?_ | refine blk_alloc ?_ _)); exact BK313.out⟩, ⟨by (with_reducible repeat (first | refine blk_drewN ?_ _ | refine blk_drew ?_ | refine blk_alloc ?_ _)); refine blk_far ?_ NB325_329.out _; (with_reducible repeat (first | refine blk_drewN ?_ _ | refine blk_drew ?_ | refine blk_alloc ?_ _)); refine blk_far ?_ NB325_329.out _; (with_reducible repeat (first | refine blk_drewN ?_ _ | refine blk_drew ?_ | refine blk_alloc ?_ _)); exact BK325.out⟩, ⟨by (with_reducible repeat (first | refine blk_drewN ?_ _ | refine blk_drew ?_ | refine blk_alloc ?_ _)); refine blk_put (cs := #[.int .i64 t326, .int .i64 0]) ?_ 1 _ rfl; (with_reducible repeat (first | refine blk_drewN ?_ _ | refine blk_drew ?_ | refine blk_alloc ?_ _)); refine blk_put (cs := #[.int .i64 0, .int .i64 0]) ?_ 0 _ rfl; (with_reducible repeat (first | refine blk_drewN ?_ _ | refine blk_drew ?_ | refine blk_alloc ?_ _)); exact BK329.out⟩, ⟨by repeat (first | (with_reducible first | exact HB.out | apply below_alloc | apply pw_below_drewN | apply below_drew1 | refine below_set ?_ GE297.out | refine below_set ?_ GE298.out | refine below_set ?_ GE306.out | refine below_set ?_ GE313.out | refine below_set ?_ GE325.out | refine below_set ?_ GE329.out) | exact HB.out)⟩⟩
       ·rw [if_neg c63] at H
        have c63b0 : (t305 != t312) = false := by simpa using c63
        (try (have c63b1 : decide (t305 = t312) = true := by simpa using c63))
        (try (have c63b2 : (t305 == t312) = true := by simpa using c63))
        clear c63
        replace H := Option.bind_eq_some_iff.mp H
        obtain ⟨t330, A770, H⟩ := H
        replace H : (if t330 = true then (if (t317 != t321) = true then (ridgewaylaw02_PrefixIs.j1 kj6 a2 l3 t299 true a0_0 a0_1 a1_0 a1_1) else (if (!(t322 == t326) || (!(t323 == t327))) = true then (ridgewaylaw02_PrefixIs.j1 kj6 a2 l3 t299 true a0_0 a0_1 a1_0 a1_1) else (ridgewaylaw02_PrefixIs.j1 kj6 a2 l3 t299 (t324 != t328) a0_0 a0_1 a1_0 a1_1))) else (ridgewaylaw02_PrefixIs.j1 kj6 a2 l3 t299 true a0_0 a0_1 a1_0 a1_1)) = some r := H
        have A77 := Aside0.mk A770
        clear A770
        by_cases c78 : t330 = true
        ·subst c78
         have H1 : (if (t317 != t321) = true then (ridgewaylaw02_PrefixIs.j1 kj6 a2 l3 t299 true a0_0 a0_1 a1_0 a1_1) else (if (!(t322 == t326) || (!(t323 == t327))) = true then (ridgewaylaw02_PrefixIs.j1 kj6 a2 l3 t299 true a0_0 a0_1 a1_0 a1_1) else (ridgewaylaw02_PrefixIs.j1 kj6 a2 l3 t299 (t324 != t328) a0_0 a0_1 a1_0 a1_1))) = some r := by rw [if_pos rfl] at H; exact H
         clear H
         have H := H1
         clear H1
         by_cases c79 : (t317 != t321) = true
         ·rw [if_pos c79] at H
          have c79b0 : (t317 != t321) = true := c79
          (try (have c79b1 : decide (t317 = t321) = false := by simpa using c79))
          (try (have c79b2 : (t317 == t321) = false := by simpa using c79))
          (try (have c79b3 : ¬ (t317 = t321) := by simpa using c79))
          clear c79
          have H' := Aside0.mk H
          clear H
          have hnb80 := NB306_297.out
          have hnc80 := NB297_306.out
          have hnb81 := NB306_298.out
          have hnc81 := NB298_306.out
          have hnb82 := NB306_313.out
          have hnc82 := NB313_306.out
          have hnb83 := NB306_325.out
          have hnc83 := NB325_306.out
          have hnb84 := NB306_329.out
          have hnc84 := NB329_306.out
          have hcz85_0 : w43.cell? ⟨gb306, 0, none⟩ = some (.int .i64 t300) := (blk_cell BK306.out 0).trans rfl
          have hcz85_1 : w43.cell? ⟨gb306, 1, none⟩ = some (.int .i64 t301) := (blk_cell BK306.out 1).trans rfl
          have hfz85_0 := blk_frozen BK306.out 0
          have hfz85_1 := blk_frozen BK306.out 1
          have hnb86 := NB313_297.out
          have hnc86 := NB297_313.out
          have hnb87 := NB313_298.out
          have hnc87 := NB298_313.out
          have hnb88 := NB313_325.out
          have hnc88 := NB325_313.out
          have hnb89 := NB313_329.out
          have hnc89 := NB329_313.out
          have hcz90_0 : w43.cell? ⟨gb313, 0, none⟩ = some (.int .i64 t307) := (blk_cell BK313.out 0).trans rfl
          have hcz90_1 : w43.cell? ⟨gb313, 1, none⟩ = some (.int .i64 t308) := (blk_cell BK313.out 1).trans rfl
          have hfz90_0 := blk_frozen BK313.out 0
          have hfz90_1 := blk_frozen BK313.out 1
          have hcv91 : (convert 24 9 v303).run Tryd.prog ((w43.setCell ⟨gb329, 0, none⟩ (.int .i64 t326)).setCell ⟨gb329, 1, none⟩ (.int .i64 t327)) = .ok (.string (strOfNums t302)) ((w43.setCell ⟨gb329, 0, none⟩ (.int .i64 t326)).setCell ⟨gb329, 1, none⟩ (.int .i64 t327)) := V_string Tryd.underlying24 Tryd.underlying5 Tryd.underlying9 (by (with_reducible repeat (first | apply Kd.V_alloc | apply Kd.V_drewN | apply Kd.V_drew)); exact (Kd.V_mono (Kd.V_far (p := ⟨gb329, 1, none⟩) (Kd.V_far (p := ⟨gb329, 0, none⟩) (Kd.V_mono HO304.out (fun k_ hk => (⟨hk, hk.2⟩ : _ ∧ k_ ≠ gb329))) (fun _ hk => hk.2) (.int .i64 t326)) (fun _ hk => hk.2) (.int .i64 t327)) (fun _ h_ => h_.1)))
          have hcv92 : (convert 24 9 v310).run Tryd.prog ((w43.setCell ⟨gb329, 0, none⟩ (.int .i64 t326)).setCell ⟨gb329, 1, none⟩ (.int .i64 t327)) = .ok (.string (strOfNums t309)) ((w43.setCell ⟨gb329, 0, none⟩ (.int .i64 t326)).setCell ⟨gb329, 1, none⟩ (.int .i64 t327)) := V_string Tryd.underlying24 Tryd.underlying5 Tryd.underlying9 (by (with_reducible repeat (first | apply Kd.V_alloc | apply Kd.V_drewN | apply Kd.V_drew)); exact (Kd.V_mono (Kd.V_far (p := ⟨gb329, 1, none⟩) (Kd.V_far (p := ⟨gb329, 0, none⟩) (Kd.V_mono HO311.out (fun k_ hk => (⟨hk, hk.2⟩ : _ ∧ k_ ≠ gb329))) (fun _ hk => hk.2) (.int .i64 t326)) (fun _ hk => hk.2) (.int .i64 t327)) (fun _ h_ => h_.1)))
          obtain ⟨Ao93, co93, eo93⟩ := Kd.R_slice HO316.out
          subst eo93
          obtain ⟨Ao94, co94, eo94⟩ := Kd.R_slice HO320.out
          subst eo94
          go_wp2_with (first | (go_at_call 17; (with_reducible refine (ridgewayref02_Same.calls kj6 _ _ t314 _ _ t318 true _ ?side1 ?side2 ?side3 ?side4 A77.out).mono ?_); (case side1 => refine (Kd.R_reads' (e := 23) (base := w.heap.size) (ok := fun k_ => (((((((True ∧ k_ ≠ gb297) ∧ k_ ≠ gb298) ∧ k_ ≠ gb306) ∧ k_ ≠ gb313) ∧ some k_ ≠ (.slice Ao94 t318.length co94 : Value).ownBlock) ∧ k_ ≠ gb325) ∧ k_ ≠ gb329)) (n := t314.length) (c := co93) ?_).2.2; exact (by (with_reducible repeat (first | apply Kd.R_alloc | apply Kd.R_drewN | apply Kd.R_drew)); exact (Kd.R_mono (Kd.R_far (p := ⟨gb329, 1, none⟩) (Kd.R_far (p := ⟨gb329, 0, none⟩) (Kd.R_mono HO316.out (fun k_ hk => (⟨hk, hk.2⟩ : _ ∧ k_ ≠ gb329))) (fun _ hk => hk.2) (.int .i64 t326)) (fun _ hk => hk.2) (.int .i64 t327)) (fun _ h_ => h_.1)))); (case side2 => exact (Kd.R_reads' HO316.out).2.1); (case side3 => refine (Kd.R_reads' (e := 23) (base := w.heap.size) (ok := fun k_ => (((((((True ∧ some k_ ≠ (.slice Ao93 t314.length co93 : Value).ownBlock) ∧ k_ ≠ gb297) ∧ k_ ≠ gb298) ∧ k_ ≠ gb306) ∧ k_ ≠ gb313) ∧ k_ ≠ gb325) ∧ k_ ≠ gb329)) (n := t318.length) (c := co94) ?_).2.2; exact (by (with_reducible repeat (first | apply Kd.R_alloc | apply Kd.R_drewN | apply Kd.R_drew)); exact (Kd.R_mono (Kd.R_far (p := ⟨gb329, 1, none⟩) (Kd.R_far (p := ⟨gb329, 0, none⟩) (Kd.R_mono HO320.out (fun k_ hk => (⟨hk, hk.2⟩ : _ ∧ k_ ≠ gb329))) (fun _ hk => hk.2) (.int .i64 t326)) (fun _ hk => hk.2) (.int .i64 t327)) (fun _ h_ => h_.1)))); (case side4 => exact (Kd.R_reads' HO320.out).2.1); rintro e w' ⟨rfl, ⟨nd, rfl⟩⟩))
          go_meet
          case rel => exact ⟨_, (true), (by first | rfl | (simp; done) | (simp [*]; done)), H', ⟨by have := HJ6.out; first | omega | exact Nat.le_refl _⟩, ⟨by (with_reducible repeat (first | refine blk_drewN ?_ _ | refine blk_drew ?_ | refine blk_alloc ?_ _)); refine blk_far ?_ NB297_329.out _; (with_reducible repeat (first | refine blk_drewN ?_ _ | refine blk_drew ?_ | refine blk_alloc ?_ _)); refine blk_far ?_ NB297_329.out _; (with_reducible repeat (first | refine blk_drewN ?_ _ | refine blk_drew ?_ | refine blk_alloc ?_ _)); exact BK297.out⟩, ⟨by (with_reducible repeat (first | refine blk_drewN ?_ _ | refine blk_drew ?_ | refine blk_alloc ?_ _)); refine blk_far ?_ NB298_329.out _; (with_reducible repeat (first | refine blk_drewN ?_ _ | refine blk_drew ?_ | refine blk_alloc ?_ _)); refine blk_far ?_ NB298_329.out _; (with_reducible repeat (first | refine blk_drewN ?_ _ | refine blk_drew ?_ | refine blk_alloc ?_ _)); exact BK298.out⟩, ⟨by (with_reducible repeat (first | refine blk_drewN ?_ _ | refine blk_drew ?_ | refine blk_alloc ?_ _)); refine blk_far ?_ NB306_329.out _; (with_reducible repeat (first | refine blk_drewN ?_ _ | refine blk_drew ?_ | refine blk_alloc ?_ _)); refine blk_far ?_ NB306_329.out _; (with_reducible repeat (first | refine blk_drewN ?_ _ | refine blk_drew ?_ | refine blk_alloc ?_ _)); exact BK306.out⟩, ⟨by (with_reducible repeat (first | refine blk_drewN ?_ _ | refine blk_drew ?_ | refine blk_alloc ?_ _)); refine blk_far ?_ NB313_329.out _; (with_reducible repeat (first | refine blk_drewN ?_ _ | refine blk_drew ?_ | refine blk_alloc ?_ _)); refine blk_far ?_ NB313_329.out _; (with_reducible repeat (first | refine blk_drewN ?_ _ | refine blk_drew ?_ | refine blk_alloc ?_ _)); exact BK313.out⟩, ⟨by (with_reducible repeat (first | refine blk_drewN ?_ _ | refine blk_drew ?_ | refine blk_alloc ?_ _)); refine blk_far ?_ NB325_329.out _; (with_reducible repeat (first | refine blk_drewN ?_ _ | refine blk_drew ?_ | refine blk_alloc ?_ _)); refine blk_far ?_ NB325_329.out _; (with_reducible repeat (first | refine blk_drewN ?_ _ | refine blk_drew ?_ | refine blk_alloc ?_ _)); exact BK325.out⟩, ⟨by (with_reducible repeat (first | refine blk_drewN ?_ _ | refine blk_drew ?_ | refine blk_alloc ?_ _)); refine blk_put (cs := #[.int .i64 t326, .int .i64 0]) ?_ 1 _ rfl; (with_reducible repeat (first | refine blk_drewN ?_ _ | refine blk_drew ?_ | refine blk_alloc ?_ _)); refine blk_put (cs := #[.int .i64 0, .int .i64 0]) ?_ 0 _ rfl; (with_reducible repeat (first | refine blk_drewN ?_ _ | refine blk_drew ?_ | refine blk_alloc ?_ _)); exact BK329.out⟩, ⟨by repeat (first | (with_reducible first | exact HB.out | apply below_alloc | apply pw_below_drewN | apply below_drew1 | refine below_set ?_ GE297.out | refine below_set ?_ GE298.out | refine below_set ?_ GE306.out | refine below_set ?_ GE313.out | refine below_set ?_ GE325.out | refine below_set ?_ GE329.out) | exact HB.out)⟩⟩
         ·rw [if_neg c79] at H
          have c79b0 : (t317 != t321) = false := by simpa using c79
          (try (have c79b1 : decide (t317 = t321) = true := by simpa using c79))
          (try (have c79b2 : (t317 == t321) = true := by simpa using c79))
          clear c79
          by_cases c95 : (!(t322 == t326) || (!(t323 == t327))) = true
          ·rw [if_pos c95] at H
           have c95b0 : (!(t322 == t326) || (!(t323 == t327))) = true := c95
           clear c95
           have H' := Aside0.mk H
           clear H
           have hnb96 := NB306_297.out
           have hnc96 := NB297_306.out
           have hnb97 := NB306_298.out
           have hnc97 := NB298_306.out
           have hnb98 := NB306_313.out
           have hnc98 := NB313_306.out
           have hnb99 := NB306_325.out
           have hnc99 := NB325_306.out
           have hnb100 := NB306_329.out
           have hnc100 := NB329_306.out
           have hcz101_0 : w43.cell? ⟨gb306, 0, none⟩ = some (.int .i64 t300) := (blk_cell BK306.out 0).trans rfl
           have hcz101_1 : w43.cell? ⟨gb306, 1, none⟩ = some (.int .i64 t301) := (blk_cell BK306.out 1).trans rfl
           have hfz101_0 := blk_frozen BK306.out 0
           have hfz101_1 := blk_frozen BK306.out 1
           have hnb102 := NB313_297.out
           have hnc102 := NB297_313.out
           have hnb103 := NB313_298.out
           have hnc103 := NB298_313.out
           have hnb104 := NB313_325.out
           have hnc104 := NB325_313.out
           have hnb105 := NB313_329.out
           have hnc105 := NB329_313.out
           have hcz106_0 : w43.cell? ⟨gb313, 0, none⟩ = some (.int .i64 t307) := (blk_cell BK313.out 0).trans rfl
           have hcz106_1 : w43.cell? ⟨gb313, 1, none⟩ = some (.int .i64 t308) := (blk_cell BK313.out 1).trans rfl
           have hfz106_0 := blk_frozen BK313.out 0
           have hfz106_1 := blk_frozen BK313.out 1
           have hcv107 : (convert 24 9 v303).run Tryd.prog ((w43.setCell ⟨gb329, 0, none⟩ (.int .i64 t326)).setCell ⟨gb329, 1, none⟩ (.int .i64 t327)) = .ok (.string (strOfNums t302)) ((w43.setCell ⟨gb329, 0, none⟩ (.int .i64 t326)).setCell ⟨gb329, 1, none⟩ (.int .i64 t327)) := V_string Tryd.underlying24 Tryd.underlying5 Tryd.underlying9 (by (with_reducible repeat (first | apply Kd.V_alloc | apply Kd.V_drewN | apply Kd.V_drew)); exact (Kd.V_mono (Kd.V_far (p := ⟨gb329, 1, none⟩) (Kd.V_far (p := ⟨gb329, 0, none⟩) (Kd.V_mono HO304.out (fun k_ hk => (⟨hk, hk.2⟩ : _ ∧ k_ ≠ gb329))) (fun _ hk => hk.2) (.int .i64 t326)) (fun _ hk => hk.2) (.int .i64 t327)) (fun _ h_ => h_.1)))
           have hcv108 : (convert 24 9 v310).run Tryd.prog ((w43.setCell ⟨gb329, 0, none⟩ (.int .i64 t326)).setCell ⟨gb329, 1, none⟩ (.int .i64 t327)) = .ok (.string (strOfNums t309)) ((w43.setCell ⟨gb329, 0, none⟩ (.int .i64 t326)).setCell ⟨gb329, 1, none⟩ (.int .i64 t327)) := V_string Tryd.underlying24 Tryd.underlying5 Tryd.underlying9 (by (with_reducible repeat (first | apply Kd.V_alloc | apply Kd.V_drewN | apply Kd.V_drew)); exact (Kd.V_mono (Kd.V_far (p := ⟨gb329, 1, none⟩) (Kd.V_far (p := ⟨gb329, 0, none⟩) (Kd.V_mono HO311.out (fun k_ hk => (⟨hk, hk.2⟩ : _ ∧ k_ ≠ gb329))) (fun _ hk => hk.2) (.int .i64 t326)) (fun _ hk => hk.2) (.int .i64 t327)) (fun _ h_ => h_.1)))
           obtain ⟨Ao109, co109, eo109⟩ := Kd.R_slice HO316.out
           subst eo109
           obtain ⟨Ao110, co110, eo110⟩ := Kd.R_slice HO320.out
           subst eo110
           go_wp2_with (first | (go_at_call 17; (with_reducible refine (ridgewayref02_Same.calls kj6 _ _ t314 _ _ t318 true _ ?side1 ?side2 ?side3 ?side4 A77.out).mono ?_); (case side1 => refine (Kd.R_reads' (e := 23) (base := w.heap.size) (ok := fun k_ => (((((((True ∧ k_ ≠ gb297) ∧ k_ ≠ gb298) ∧ k_ ≠ gb306) ∧ k_ ≠ gb313) ∧ some k_ ≠ (.slice Ao110 t318.length co110 : Value).ownBlock) ∧ k_ ≠ gb325) ∧ k_ ≠ gb329)) (n := t314.length) (c := co109) ?_).2.2; exact (by (with_reducible repeat (first | apply Kd.R_alloc | apply Kd.R_drewN | apply Kd.R_drew)); exact (Kd.R_mono (Kd.R_far (p := ⟨gb329, 1, none⟩) (Kd.R_far (p := ⟨gb329, 0, none⟩) (Kd.R_mono HO316.out (fun k_ hk => (⟨hk, hk.2⟩ : _ ∧ k_ ≠ gb329))) (fun _ hk => hk.2) (.int .i64 t326)) (fun _ hk => hk.2) (.int .i64 t327)) (fun _ h_ => h_.1)))); (case side2 => exact (Kd.R_reads' HO316.out).2.1); (case side3 => refine (Kd.R_reads' (e := 23) (base := w.heap.size) (ok := fun k_ => (((((((True ∧ some k_ ≠ (.slice Ao109 t314.length co109 : Value).ownBlock) ∧ k_ ≠ gb297) ∧ k_ ≠ gb298) ∧ k_ ≠ gb306) ∧ k_ ≠ gb313) ∧ k_ ≠ gb325) ∧ k_ ≠ gb329)) (n := t318.length) (c := co110) ?_).2.2; exact (by (with_reducible repeat (first | apply Kd.R_alloc | apply Kd.R_drewN | apply Kd.R_drew)); exact (Kd.R_mono (Kd.R_far (p := ⟨gb329, 1, none⟩) (Kd.R_far (p := ⟨gb329, 0, none⟩) (Kd.R_mono HO320.out (fun k_ hk => (⟨hk, hk.2⟩ : _ ∧ k_ ≠ gb329))) (fun _ hk => hk.2) (.int .i64 t326)) (fun _ hk => hk.2) (.int .i64 t327)) (fun _ h_ => h_.1)))); (case side4 => exact (Kd.R_reads' HO320.out).2.1); rintro e w' ⟨rfl, ⟨nd, rfl⟩⟩; have hnb111 := NB325_297.out; have hnc111 := NB297_325.out; have hnb112 := NB325_298.out; have hnc112 := NB298_325.out; have hnb113 := NB325_329.out; have hnc113 := NB329_325.out; have hcz114_0 : w43.cell? ⟨gb325, 0, none⟩ = some (.int .i64 t322) := (blk_cell BK325.out 0).trans rfl; have hcz114_1 : w43.cell? ⟨gb325, 1, none⟩ = some (.int .i64 t323) := (blk_cell BK325.out 1).trans rfl; have hfz114_0 := blk_frozen BK325.out 0; have hfz114_1 := blk_frozen BK325.out 1; have hnb115 := NB329_297.out; have hnc115 := NB297_329.out; have hnb116 := NB329_298.out; have hnc116 := NB298_329.out; have hcz117_0 : w43.cell? ⟨gb329, 0, none⟩ = some (.int .i64 0) := (blk_cell BK329.out 0).trans rfl; have hcz117_1 : w43.cell? ⟨gb329, 1, none⟩ = some (.int .i64 0) := (blk_cell BK329.out 1).trans rfl; have hfz117_0 := blk_frozen BK329.out 0; have hfz117_1 := blk_frozen BK329.out 1))
           go_meet
           case rel => exact ⟨_, (true), (by first | rfl | (simp; done) | (simp [*]; done)), H', ⟨by have := HJ6.out; first | omega | exact Nat.le_refl _⟩, ⟨by (with_reducible repeat (first | refine blk_drewN ?_ _ | refine blk_drew ?_ | refine blk_alloc ?_ _)); refine blk_far ?_ NB297_329.out _; (with_reducible repeat (first | refine blk_drewN ?_ _ | refine blk_drew ?_ | refine blk_alloc ?_ _)); refine blk_far ?_ NB297_329.out _; (with_reducible repeat (first | refine blk_drewN ?_ _ | refine blk_drew ?_ | refine blk_alloc ?_ _)); exact BK297.out⟩, ⟨by (with_reducible repeat (first | refine blk_drewN ?_ _ | refine blk_drew ?_ | refine blk_alloc ?_ _)); refine blk_far ?_ NB298_329.out _; (with_reducible repeat (first | refine blk_drewN ?_ _ | refine blk_drew ?_ | refine blk_alloc ?_ _)); refine blk_far ?_ NB298_329.out _; (with_reducible repeat (first | refine blk_drewN ?_ _ | refine blk_drew ?_ | refine blk_alloc ?_ _)); exact BK298.out⟩, ⟨by (with_reducible repeat (first | refine blk_drewN ?_ _ | refine blk_drew ?_ | refine blk_alloc ?_ _)); refine blk_far ?_ NB306_329.out _; (with_reducible repeat (first | refine blk_drewN ?_ _ | refine blk_drew ?_ | refine blk_alloc ?_ _)); refine blk_far ?_ NB306_329.out _; (with_reducible repeat (first | refine blk_drewN ?_ _ | refine blk_drew ?_ | refine blk_alloc ?_ _)); exact BK306.out⟩, ⟨by (with_reducible repeat (first | refine blk_drewN ?_ _ | refine blk_drew ?_ | refine blk_alloc ?_ _)); refine blk_far ?_ NB313_329.out _; (with_reducible repeat (first | refine blk_drewN ?_ _ | refine blk_drew ?_ | refine blk_alloc ?_ _)); refine blk_far ?_ NB313_329.out _; (with_reducible repeat (first | refine blk_drewN ?_ _ | refine blk_drew ?_ | refine blk_alloc ?_ _)); exact BK313.out⟩, ⟨by (with_reducible repeat (first | refine blk_drewN ?_ _ | refine blk_drew ?_ | refine blk_alloc ?_ _)); refine blk_far ?_ NB325_329.out _; (with_reducible repeat (first | refine blk_drewN ?_ _ | refine blk_drew ?_ | refine blk_alloc ?_ _)); refine blk_far ?_ NB325_329.out _; (with_reducible repeat (first | refine blk_drewN ?_ _ | refine blk_drew ?_ | refine blk_alloc ?_ _)); exact BK325.out⟩, ⟨by (with_reducible repeat (first | refine blk_drewN ?_ _ | refine blk_drew ?_ | refine blk_alloc ?_ _)); refine blk_put (cs := #[.int .i64 t326, .int .i64 0]) ?_ 1 _ rfl; (with_reducible repeat (first | refine blk_drewN ?_ _ | refine blk_drew ?_ | refine blk_alloc ?_ _)); refine blk_put (cs := #[.int .i64 0, .int .i64 0]) ?_ 0 _ rfl; (with_reducible repeat (first | refine blk_drewN ?_ _ | refine blk_drew ?_ | refine blk_alloc ?_ _)); exact BK329.out⟩, ⟨by repeat (first | (with_reducible first | exact HB.out | apply below_alloc | apply pw_below_drewN | apply below_drew1 | refine below_set ?_ GE297.out | refine below_set ?_ GE298.out | refine below_set ?_ GE306.out | refine below_set ?_ GE313.out | refine below_set ?_ GE325.out | refine below_set ?_ GE329.out) | exact HB.out)⟩⟩
          ·rw [if_neg c95] at H
           have c95b0 : (!(t322 == t326) || (!(t323 == t327))) = false := by simpa using c95
           clear c95
           have H' := Aside0.mk H
           clear H
           have hnb118 := NB306_297.out
           have hnc118 := NB297_306.out
           have hnb119 := NB306_298.out
           have hnc119 := NB298_306.out
           have hnb120 := NB306_313.out
           have hnc120 := NB313_306.out
           have hnb121 := NB306_325.out
           have hnc121 := NB325_306.out
           have hnb122 := NB306_329.out
           have hnc122 := NB329_306.out
           have hcz123_0 : w43.cell? ⟨gb306, 0, none⟩ = some (.int .i64 t300) := (blk_cell BK306.out 0).trans rfl
           have hcz123_1 : w43.cell? ⟨gb306, 1, none⟩ = some (.int .i64 t301) := (blk_cell BK306.out 1).trans rfl
           have hfz123_0 := blk_frozen BK306.out 0
           have hfz123_1 := blk_frozen BK306.out 1
           have hnb124 := NB313_297.out
           have hnc124 := NB297_313.out
           have hnb125 := NB313_298.out
           have hnc125 := NB298_313.out
           have hnb126 := NB313_325.out
           have hnc126 := NB325_313.out
           have hnb127 := NB313_329.out
           have hnc127 := NB329_313.out
           have hcz128_0 : w43.cell? ⟨gb313, 0, none⟩ = some (.int .i64 t307) := (blk_cell BK313.out 0).trans rfl
           have hcz128_1 : w43.cell? ⟨gb313, 1, none⟩ = some (.int .i64 t308) := (blk_cell BK313.out 1).trans rfl
           have hfz128_0 := blk_frozen BK313.out 0
           have hfz128_1 := blk_frozen BK313.out 1
           have hcv129 : (convert 24 9 v303).run Tryd.prog ((w43.setCell ⟨gb329, 0, none⟩ (.int .i64 t326)).setCell ⟨gb329, 1, none⟩ (.int .i64 t327)) = .ok (.string (strOfNums t302)) ((w43.setCell ⟨gb329, 0, none⟩ (.int .i64 t326)).setCell ⟨gb329, 1, none⟩ (.int .i64 t327)) := V_string Tryd.underlying24 Tryd.underlying5 Tryd.underlying9 (by (with_reducible repeat (first | apply Kd.V_alloc | apply Kd.V_drewN | apply Kd.V_drew)); exact (Kd.V_mono (Kd.V_far (p := ⟨gb329, 1, none⟩) (Kd.V_far (p := ⟨gb329, 0, none⟩) (Kd.V_mono HO304.out (fun k_ hk => (⟨hk, hk.2⟩ : _ ∧ k_ ≠ gb329))) (fun _ hk => hk.2) (.int .i64 t326)) (fun _ hk => hk.2) (.int .i64 t327)) (fun _ h_ => h_.1)))
           have hcv130 : (convert 24 9 v310).run Tryd.prog ((w43.setCell ⟨gb329, 0, none⟩ (.int .i64 t326)).setCell ⟨gb329, 1, none⟩ (.int .i64 t327)) = .ok (.string (strOfNums t309)) ((w43.setCell ⟨gb329, 0, none⟩ (.int .i64 t326)).setCell ⟨gb329, 1, none⟩ (.int .i64 t327)) := V_string Tryd.underlying24 Tryd.underlying5 Tryd.underlying9 (by (with_reducible repeat (first | apply Kd.V_alloc | apply Kd.V_drewN | apply Kd.V_drew)); exact (Kd.V_mono (Kd.V_far (p := ⟨gb329, 1, none⟩) (Kd.V_far (p := ⟨gb329, 0, none⟩) (Kd.V_mono HO311.out (fun k_ hk => (⟨hk, hk.2⟩ : _ ∧ k_ ≠ gb329))) (fun _ hk => hk.2) (.int .i64 t326)) (fun _ hk => hk.2) (.int .i64 t327)) (fun _ h_ => h_.1)))
           obtain ⟨Ao131, co131, eo131⟩ := Kd.R_slice HO316.out
           subst eo131
           obtain ⟨Ao132, co132, eo132⟩ := Kd.R_slice HO320.out
           subst eo132
           go_wp2_with (first | (go_at_call 17; (with_reducible refine (ridgewayref02_Same.calls kj6 _ _ t314 _ _ t318 true _ ?side1 ?side2 ?side3 ?side4 A77.out).mono ?_); (case side1 => refine (Kd.R_reads' (e := 23) (base := w.heap.size) (ok := fun k_ => (((((((True ∧ k_ ≠ gb297) ∧ k_ ≠ gb298) ∧ k_ ≠ gb306) ∧ k_ ≠ gb313) ∧ some k_ ≠ (.slice Ao132 t318.length co132 : Value).ownBlock) ∧ k_ ≠ gb325) ∧ k_ ≠ gb329)) (n := t314.length) (c := co131) ?_).2.2; exact (by (with_reducible repeat (first | apply Kd.R_alloc | apply Kd.R_drewN | apply Kd.R_drew)); exact (Kd.R_mono (Kd.R_far (p := ⟨gb329, 1, none⟩) (Kd.R_far (p := ⟨gb329, 0, none⟩) (Kd.R_mono HO316.out (fun k_ hk => (⟨hk, hk.2⟩ : _ ∧ k_ ≠ gb329))) (fun _ hk => hk.2) (.int .i64 t326)) (fun _ hk => hk.2) (.int .i64 t327)) (fun _ h_ => h_.1)))); (case side2 => exact (Kd.R_reads' HO316.out).2.1); (case side3 => refine (Kd.R_reads' (e := 23) (base := w.heap.size) (ok := fun k_ => (((((((True ∧ some k_ ≠ (.slice Ao131 t314.length co131 : Value).ownBlock) ∧ k_ ≠ gb297) ∧ k_ ≠ gb298) ∧ k_ ≠ gb306) ∧ k_ ≠ gb313) ∧ k_ ≠ gb325) ∧ k_ ≠ gb329)) (n := t318.length) (c := co132) ?_).2.2; exact (by (with_reducible repeat (first | apply Kd.R_alloc | apply Kd.R_drewN | apply Kd.R_drew)); exact (Kd.R_mono (Kd.R_far (p := ⟨gb329, 1, none⟩) (Kd.R_far (p := ⟨gb329, 0, none⟩) (Kd.R_mono HO320.out (fun k_ hk => (⟨hk, hk.2⟩ : _ ∧ k_ ≠ gb329))) (fun _ hk => hk.2) (.int .i64 t326)) (fun _ hk => hk.2) (.int .i64 t327)) (fun _ h_ => h_.1)))); (case side4 => exact (Kd.R_reads' HO320.out).2.1); rintro e w' ⟨rfl, ⟨nd, rfl⟩⟩; have hnb133 := NB325_297.out; have hnc133 := NB297_325.out; have hnb134 := NB325_298.out; have hnc134 := NB298_325.out; have hnb135 := NB325_329.out; have hnc135 := NB329_325.out; have hcz136_0 : w43.cell? ⟨gb325, 0, none⟩ = some (.int .i64 t322) := (blk_cell BK325.out 0).trans rfl; have hcz136_1 : w43.cell? ⟨gb325, 1, none⟩ = some (.int .i64 t323) := (blk_cell BK325.out 1).trans rfl; have hfz136_0 := blk_frozen BK325.out 0; have hfz136_1 := blk_frozen BK325.out 1; have hnb137 := NB329_297.out; have hnc137 := NB297_329.out; have hnb138 := NB329_298.out; have hnc138 := NB298_329.out; have hcz139_0 : w43.cell? ⟨gb329, 0, none⟩ = some (.int .i64 0) := (blk_cell BK329.out 0).trans rfl; have hcz139_1 : w43.cell? ⟨gb329, 1, none⟩ = some (.int .i64 0) := (blk_cell BK329.out 1).trans rfl; have hfz139_0 := blk_frozen BK329.out 0; have hfz139_1 := blk_frozen BK329.out 1))
           go_meet
           case rel => exact ⟨_, ((t324 != t328)), (by first | rfl | (simp; done) | (simp [*]; done)), H', ⟨by have := HJ6.out; first | omega | exact Nat.le_refl _⟩, ⟨by (with_reducible repeat (first | refine blk_drewN ?_ _ | refine blk_drew ?_ | refine blk_alloc ?_ _)); refine blk_far ?_ NB297_329.out _; (with_reducible repeat (first | refine blk_drewN ?_ _ | refine blk_drew ?_ | refine blk_alloc ?_ _)); refine blk_far ?_ NB297_329.out _; (with_reducible repeat (first | refine blk_drewN ?_ _ | refine blk_drew ?_ | refine blk_alloc ?_ _)); exact BK297.out⟩, ⟨by (with_reducible repeat (first | refine blk_drewN ?_ _ | refine blk_drew ?_ | refine blk_alloc ?_ _)); refine blk_far ?_ NB298_329.out _; (with_reducible repeat (first | refine blk_drewN ?_ _ | refine blk_drew ?_ | refine blk_alloc ?_ _)); refine blk_far ?_ NB298_329.out _; (with_reducible repeat (first | refine blk_drewN ?_ _ | refine blk_drew ?_ | refine blk_alloc ?_ _)); exact BK298.out⟩, ⟨by (with_reducible repeat (first | refine blk_drewN ?_ _ | refine blk_drew ?_ | refine blk_alloc ?_ _)); refine blk_far ?_ NB306_329.out _; (with_reducible repeat (first | refine blk_drewN ?_ _ | refine blk_drew ?_ | refine blk_alloc ?_ _)); refine blk_far ?_ NB306_329.out _; (with_reducible repeat (first | refine blk_drewN ?_ _ | refine blk_drew ?_ | refine blk_alloc ?_ _)); exact BK306.out⟩, ⟨by (with_reducible repeat (first | refine blk_drewN ?_ _ | refine blk_drew ?_ | refine blk_alloc ?_ _)); refine blk_far ?_ NB313_329.out _; (with_reducible repeat (first | refine blk_drewN ?_ _ | refine blk_drew ?_ | refine blk_alloc ?_ _)); refine blk_far ?_ NB313_329.out _; (with_reducible repeat (first | refine blk_drewN ?_ _ | refine blk_drew ?_ | refine blk_alloc ?_ _)); exact BK313.out⟩, ⟨by (with_reducible repeat (first | refine blk_drewN ?_ _ | refine blk_drew ?_ | refine blk_alloc ?_ _)); refine blk_far ?_ NB325_329.out _; (with_reducible repeat (first | refine blk_drewN ?_ _ | refine blk_drew ?_ | refine blk_alloc ?_ _)); refine blk_far ?_ NB325_329.out _; (with_reducible repeat (first | refine blk_drewN ?_ _ | refine blk_drew ?_ | refine blk_alloc ?_ _)); exact BK325.out⟩, ⟨by (with_reducible repeat (first | refine blk_drewN ?_ _ | refine blk_drew ?_ | refine blk_alloc ?_ _)); refine blk_put (cs := #[.int .i64 t326, .int .i64 0]) ?_ 1 _ rfl; (with_reducible repeat (first | refine blk_drewN ?_ _ | refine blk_drew ?_ | refine blk_alloc ?_ _)); refine blk_put (cs := #[.int .i64 0, .int .i64 0]) ?_ 0 _ rfl; (with_reducible repeat (first | refine blk_drewN ?_ _ | refine blk_drew ?_ | refine blk_alloc ?_ _)); exact BK329.out⟩, ⟨by repeat (first | (with_reducible first | exact HB.out | apply below_alloc | apply pw_below_drewN | apply below_drew1 | refine below_set ?_ GE297.out | refine below_set ?_ GE298.out | refine below_set ?_ GE306.out | refine below_set ?_ GE313.out | refine below_set ?_ GE325.out | refine below_set ?_ GE329.out) | exact HB.out)⟩⟩
        ·replace c78 := Bool.eq_false_iff.mpr c78
         subst c78
         have H1 : (ridgewaylaw02_PrefixIs.j1 kj6 a2 l3 t299 true a0_0 a0_1 a1_0 a1_1) = some r := by rw [if_neg (show ¬ (false = true) by decide)] at H; exact H
         clear H
         have H := H1
         clear H1
         have H' := Aside0.mk H
         clear H
         have hnb140 := NB306_297.out
         have hnc140 := NB297_306.out
         have hnb141 := NB306_298.out
         have hnc141 := NB298_306.out
         have hnb142 := NB306_313.out
         have hnc142 := NB313_306.out
         have hnb143 := NB306_325.out
         have hnc143 := NB325_306.out
         have hnb144 := NB306_329.out
         have hnc144 := NB329_306.out
         have hcz145_0 : w43.cell? ⟨gb306, 0, none⟩ = some (.int .i64 t300) := (blk_cell BK306.out 0).trans rfl
         have hcz145_1 : w43.cell? ⟨gb306, 1, none⟩ = some (.int .i64 t301) := (blk_cell BK306.out 1).trans rfl
         have hfz145_0 := blk_frozen BK306.out 0
         have hfz145_1 := blk_frozen BK306.out 1
         have hnb146 := NB313_297.out
         have hnc146 := NB297_313.out
         have hnb147 := NB313_298.out
         have hnc147 := NB298_313.out
         have hnb148 := NB313_325.out
         have hnc148 := NB325_313.out
         have hnb149 := NB313_329.out
         have hnc149 := NB329_313.out
         have hcz150_0 : w43.cell? ⟨gb313, 0, none⟩ = some (.int .i64 t307) := (blk_cell BK313.out 0).trans rfl
         have hcz150_1 : w43.cell? ⟨gb313, 1, none⟩ = some (.int .i64 t308) := (blk_cell BK313.out 1).trans rfl
         have hfz150_0 := blk_frozen BK313.out 0
         have hfz150_1 := blk_frozen BK313.out 1
         have hcv151 : (convert 24 9 v303).run Tryd.prog ((w43.setCell ⟨gb329, 0, none⟩ (.int .i64 t326)).setCell ⟨gb329, 1, none⟩ (.int .i64 t327)) = .ok (.string (strOfNums t302)) ((w43.setCell ⟨gb329, 0, none⟩ (.int .i64 t326)).setCell ⟨gb329, 1, none⟩ (.int .i64 t327)) := V_string Tryd.underlying24 Tryd.underlying5 Tryd.underlying9 (by (with_reducible repeat (first | apply Kd.V_alloc | apply Kd.V_drewN | apply Kd.V_drew)); exact (Kd.V_mono (Kd.V_far (p := ⟨gb329, 1, none⟩) (Kd.V_far (p := ⟨gb329, 0, none⟩) (Kd.V_mono HO304.out (fun k_ hk => (⟨hk, hk.2⟩ : _ ∧ k_ ≠ gb329))) (fun _ hk => hk.2) (.int .i64 t326)) (fun _ hk => hk.2) (.int .i64 t327)) (fun _ h_ => h_.1)))
         have hcv152 : (convert 24 9 v310).run Tryd.prog ((w43.setCell ⟨gb329, 0, none⟩ (.int .i64 t326)).setCell ⟨gb329, 1, none⟩ (.int .i64 t327)) = .ok (.string (strOfNums t309)) ((w43.setCell ⟨gb329, 0, none⟩ (.int .i64 t326)).setCell ⟨gb329, 1, none⟩ (.int .i64 t327)) := V_string Tryd.underlying24 Tryd.underlying5 Tryd.underlying9 (by (with_reducible repeat (first | apply Kd.V_alloc | apply Kd.V_drewN | apply Kd.V_drew)); exact (Kd.V_mono (Kd.V_far (p := ⟨gb329, 1, none⟩) (Kd.V_far (p := ⟨gb329, 0, none⟩) (Kd.V_mono HO311.out (fun k_ hk => (⟨hk, hk.2⟩ : _ ∧ k_ ≠ gb329))) (fun _ hk => hk.2) (.int .i64 t326)) (fun _ hk => hk.2) (.int .i64 t327)) (fun _ h_ => h_.1)))
         obtain ⟨Ao153, co153, eo153⟩ := Kd.R_slice HO316.out
         subst eo153
         obtain ⟨Ao154, co154, eo154⟩ := Kd.R_slice HO320.out
         subst eo154
         go_wp2_with (first | (go_at_call 17; (with_reducible refine (ridgewayref02_Same.calls kj6 _ _ t314 _ _ t318 false _ ?side1 ?side2 ?side3 ?side4 A77.out).mono ?_); (case side1 => refine (Kd.R_reads' (e := 23) (base := w.heap.size) (ok := fun k_ => (((((((True ∧ k_ ≠ gb297) ∧ k_ ≠ gb298) ∧ k_ ≠ gb306) ∧ k_ ≠ gb313) ∧ some k_ ≠ (.slice Ao154 t318.length co154 : Value).ownBlock) ∧ k_ ≠ gb325) ∧ k_ ≠ gb329)) (n := t314.length) (c := co153) ?_).2.2; exact (by (with_reducible repeat (first | apply Kd.R_alloc | apply Kd.R_drewN | apply Kd.R_drew)); exact (Kd.R_mono (Kd.R_far (p := ⟨gb329, 1, none⟩) (Kd.R_far (p := ⟨gb329, 0, none⟩) (Kd.R_mono HO316.out (fun k_ hk => (⟨hk, hk.2⟩ : _ ∧ k_ ≠ gb329))) (fun _ hk => hk.2) (.int .i64 t326)) (fun _ hk => hk.2) (.int .i64 t327)) (fun _ h_ => h_.1)))); (case side2 => exact (Kd.R_reads' HO316.out).2.1); (case side3 => refine (Kd.R_reads' (e := 23) (base := w.heap.size) (ok := fun k_ => (((((((True ∧ some k_ ≠ (.slice Ao153 t314.length co153 : Value).ownBlock) ∧ k_ ≠ gb297) ∧ k_ ≠ gb298) ∧ k_ ≠ gb306) ∧ k_ ≠ gb313) ∧ k_ ≠ gb325) ∧ k_ ≠ gb329)) (n := t318.length) (c := co154) ?_).2.2; exact (by (with_reducible repeat (first | apply Kd.R_alloc | apply Kd.R_drewN | apply Kd.R_drew)); exact (Kd.R_mono (Kd.R_far (p := ⟨gb329, 1, none⟩) (Kd.R_far (p := ⟨gb329, 0, none⟩) (Kd.R_mono HO320.out (fun k_ hk => (⟨hk, hk.2⟩ : _ ∧ k_ ≠ gb329))) (fun _ hk => hk.2) (.int .i64 t326)) (fun _ hk => hk.2) (.int .i64 t327)) (fun _ h_ => h_.1)))); (case side4 => exact (Kd.R_reads' HO320.out).2.1); rintro e w' ⟨rfl, ⟨nd, rfl⟩⟩))
         go_meet
         case rel => exact ⟨_, (true), (by first | rfl | (simp; done) | (simp [*]; done)), H', ⟨by have := HJ6.out; first | omega | exact Nat.le_refl _⟩, ⟨by (with_reducible repeat (first | refine blk_drewN ?_ _ | refine blk_drew ?_ | refine blk_alloc ?_ _)); refine blk_far ?_ NB297_329.out _; (with_reducible repeat (first | refine blk_drewN ?_ _ | refine blk_drew ?_ | refine blk_alloc ?_ _)); refine blk_far ?_ NB297_329.out _; (with_reducible repeat (first | refine blk_drewN ?_ _ | refine blk_drew ?_ | refine blk_alloc ?_ _)); exact BK297.out⟩, ⟨by (with_reducible repeat (first | refine blk_drewN ?_ _ | refine blk_drew ?_ | refine blk_alloc ?_ _)); refine blk_far ?_ NB298_329.out _; (with_reducible repeat (first | refine blk_drewN ?_ _ | refine blk_drew ?_ | refine blk_alloc ?_ _)); refine blk_far ?_ NB298_329.out _; (with_reducible repeat (first | refine blk_drewN ?_ _ | refine blk_drew ?_ | refine blk_alloc ?_ _)); exact BK298.out⟩, ⟨by (with_reducible repeat (first | refine blk_drewN ?_ _ | refine blk_drew ?_ | refine blk_alloc ?_ _)); refine blk_far ?_ NB306_329.out _; (with_reducible repeat (first | refine blk_drewN ?_ _ | refine blk_drew ?_ | refine blk_alloc ?_ _)); refine blk_far ?_ NB306_329.out _; (with_reducible repeat (first | refine blk_drewN ?_ _ | refine blk_drew ?_ | refine blk_alloc ?_ _)); exact BK306.out⟩, ⟨by (with_reducible repeat (first | refine blk_drewN ?_ _ | refine blk_drew ?_ | refine blk_alloc ?_ _)); refine blk_far ?_ NB313_329.out _; (with_reducible repeat (first | refine blk_drewN ?_ _ | refine blk_drew ?_ | refine blk_alloc ?_ _)); refine blk_far ?_ NB313_329.out _; (with_reducible repeat (first | refine blk_drewN ?_ _ | refine blk_drew ?_ | refine blk_alloc ?_ _)); exact BK313.out⟩, ⟨by (with_reducible repeat (first | refine blk_drewN ?_ _ | refine blk_drew ?_ | refine blk_alloc ?_ _)); refine blk_far ?_ NB325_329.out _; (with_reducible repeat (first | refine blk_drewN ?_ _ | refine blk_drew ?_ | refine blk_alloc ?_ _)); refine blk_far ?_ NB325_329.out _; (with_reducible repeat (first | refine blk_drewN ?_ _ | refine blk_drew ?_ | refine blk_alloc ?_ _)); exact BK325.out⟩, ⟨by (with_reducible repeat (first | refine blk_drewN ?_ _ | refine blk_drew ?_ | refine blk_alloc ?_ _)); refine blk_put (cs := #[.int .i64 t326, .int .i64 0]) ?_ 1 _ rfl; (with_reducible repeat (first | refine blk_drewN ?_ _ | refine blk_drew ?_ | refine blk_alloc ?_ _)); refine blk_put (cs := #[.int .i64 0, .int .i64 0]) ?_ 0 _ rfl; (with_reducible repeat (first | refine blk_drewN ?_ _ | refine blk_drew ?_ | refine blk_alloc ?_ _)); exact BK329.out⟩, ⟨by repeat (first | (with_reducible first | exact HB.out | apply below_alloc | apply pw_below_drewN | apply below_drew1 | refine below_set ?_ GE297.out | refine below_set ?_ GE298.out | refine below_set ?_ GE306.out | refine below_set ?_ GE313.out | refine below_set ?_ GE325.out | refine below_set ?_ GE329.out) | exact HB.out)⟩⟩
      ·rw [if_neg c62] at H
       have c62b0 : ((strOfNums t302).toList == (strOfNums t309).toList) = false := beq_eq_false_iff_ne.mpr c62
       have c62b1 : ((strOfNums t302).toList != (strOfNums t309).toList) = true := bne_iff_ne.mpr c62
       have H' := Aside0.mk H
       clear H
       have hnb155 := NB306_297.out
       have hnc155 := NB297_306.out
       have hnb156 := NB306_298.out
       have hnc156 := NB298_306.out
       have hnb157 := NB306_313.out
       have hnc157 := NB313_306.out
       have hnb158 := NB306_325.out
       have hnc158 := NB325_306.out
       have hnb159 := NB306_329.out
       have hnc159 := NB329_306.out
       have hcz160_0 : w43.cell? ⟨gb306, 0, none⟩ = some (.int .i64 t300) := (blk_cell BK306.out 0).trans rfl
       have hcz160_1 : w43.cell? ⟨gb306, 1, none⟩ = some (.int .i64 t301) := (blk_cell BK306.out 1).trans rfl
       have hfz160_0 := blk_frozen BK306.out 0
       have hfz160_1 := blk_frozen BK306.out 1
       have hnb161 := NB313_297.out
       have hnc161 := NB297_313.out
       have hnb162 := NB313_298.out
       have hnc162 := NB298_313.out
       have hnb163 := NB313_325.out
       have hnc163 := NB325_313.out
       have hnb164 := NB313_329.out
       have hnc164 := NB329_313.out
       have hcz165_0 : w43.cell? ⟨gb313, 0, none⟩ = some (.int .i64 t307) := (blk_cell BK313.out 0).trans rfl
       have hcz165_1 : w43.cell? ⟨gb313, 1, none⟩ = some (.int .i64 t308) := (blk_cell BK313.out 1).trans rfl
       have hfz165_0 := blk_frozen BK313.out 0
       have hfz165_1 := blk_frozen BK313.out 1
       have hcv166 : (convert 24 9 v303).run Tryd.prog ((w43.setCell ⟨gb329, 0, none⟩ (.int .i64 t326)).setCell ⟨gb329, 1, none⟩ (.int .i64 t327)) = .ok (.string (strOfNums t302)) ((w43.setCell ⟨gb329, 0, none⟩ (.int .i64 t326)).setCell ⟨gb329, 1, none⟩ (.int .i64 t327)) := V_string Tryd.underlying24 Tryd.underlying5 Tryd.underlying9 (by (with_reducible repeat (first | apply Kd.V_alloc | apply Kd.V_drewN | apply Kd.V_drew)); exact (Kd.V_mono (Kd.V_far (p := ⟨gb329, 1, none⟩) (Kd.V_far (p := ⟨gb329, 0, none⟩) (Kd.V_mono HO304.out (fun k_ hk => (⟨hk, hk.2⟩ : _ ∧ k_ ≠ gb329))) (fun _ hk => hk.2) (.int .i64 t326)) (fun _ hk => hk.2) (.int .i64 t327)) (fun _ h_ => h_.1)))
       have hcv167 : (convert 24 9 v310).run Tryd.prog ((w43.setCell ⟨gb329, 0, none⟩ (.int .i64 t326)).setCell ⟨gb329, 1, none⟩ (.int .i64 t327)) = .ok (.string (strOfNums t309)) ((w43.setCell ⟨gb329, 0, none⟩ (.int .i64 t326)).setCell ⟨gb329, 1, none⟩ (.int .i64 t327)) := V_string Tryd.underlying24 Tryd.underlying5 Tryd.underlying9 (by (with_reducible repeat (first | apply Kd.V_alloc | apply Kd.V_drewN | apply Kd.V_drew)); exact (Kd.V_mono (Kd.V_far (p := ⟨gb329, 1, none⟩) (Kd.V_far (p := ⟨gb329, 0, none⟩) (Kd.V_mono HO311.out (fun k_ hk => (⟨hk, hk.2⟩ : _ ∧ k_ ≠ gb329))) (fun _ hk => hk.2) (.int .i64 t326)) (fun _ hk => hk.2) (.int .i64 t327)) (fun _ h_ => h_.1)))
       go_wp2
       go_meet
       case rel => exact ⟨_, (true), (by first | rfl | (simp; done) | (simp [*]; done)), H', ⟨by have := HJ6.out; first | omega | exact Nat.le_refl _⟩, ⟨by (with_reducible repeat (first | refine blk_drewN ?_ _ | refine blk_drew ?_ | refine blk_alloc ?_ _)); refine blk_far ?_ NB297_329.out _; (with_reducible repeat (first | refine blk_drewN ?_ _ | refine blk_drew ?_ | refine blk_alloc ?_ _)); refine blk_far ?_ NB297_329.out _; (with_reducible repeat (first | refine blk_drewN ?_ _ | refine blk_drew ?_ | refine blk_alloc ?_ _)); exact BK297.out⟩, ⟨by (with_reducible repeat (first | refine blk_drewN ?_ _ | refine blk_drew ?_ | refine blk_alloc ?_ _)); refine blk_far ?_ NB298_329.out _; (with_reducible repeat (first | refine blk_drewN ?_ _ | refine blk_drew ?_ | refine blk_alloc ?_ _)); refine blk_far ?_ NB298_329.out _; (with_reducible repeat (first | refine blk_drewN ?_ _ | refine blk_drew ?_ | refine blk_alloc ?_ _)); exact BK298.out⟩, ⟨by (with_reducible repeat (first | refine blk_drewN ?_ _ | refine blk_drew ?_ | refine blk_alloc ?_ _)); refine blk_far ?_ NB306_329.out _; (with_reducible repeat (first | refine blk_drewN ?_ _ | refine blk_drew ?_ | refine blk_alloc ?_ _)); refine blk_far ?_ NB306_329.out _; (with_reducible repeat (first | refine blk_drewN ?_ _ | refine blk_drew ?_ | refine blk_alloc ?_ _)); exact BK306.out⟩, ⟨by (with_reducible repeat (first | refine blk_drewN ?_ _ | refine blk_drew ?_ | refine blk_alloc ?_ _)); refine blk_far ?_ NB313_329.out _; (with_reducible repeat (first | refine blk_drewN ?_ _ | refine blk_drew ?_ | refine blk_alloc ?_ _)); refine blk_far ?_ NB313_329.out _; (with_reducible repeat (first | refine blk_drewN ?_ _ | refine blk_drew ?_ | refine blk_alloc ?_ _)); exact BK313.out⟩, ⟨by (with_reducible repeat (first | refine blk_drewN ?_ _ | refine blk_drew ?_ | refine blk_alloc ?_ _)); refine blk_far ?_ NB325_329.out _; (with_reducible repeat (first | refine blk_drewN ?_ _ | refine blk_drew ?_ | refine blk_alloc ?_ _)); refine blk_far ?_ NB325_329.out _; (with_reducible repeat (first | refine blk_drewN ?_ _ | refine blk_drew ?_ | refine blk_alloc ?_ _)); exact BK325.out⟩, ⟨by (with_reducible repeat (first | refine blk_drewN ?_ _ | refine blk_drew ?_ | refine blk_alloc ?_ _)); refine blk_put (cs := #[.int .i64 t326, .int .i64 0]) ?_ 1 _ rfl; (with_reducible repeat (first | refine blk_drewN ?_ _ | refine blk_drew ?_ | refine blk_alloc ?_ _)); refine blk_put (cs := #[.int .i64 0, .int .i64 0]) ?_ 0 _ rfl; (with_reducible repeat (first | refine blk_drewN ?_ _ | refine blk_drew ?_ | refine blk_alloc ?_ _)); exact BK329.out⟩, ⟨by repeat (first | (with_reducible first | exact HB.out | apply below_alloc | apply pw_below_drewN | apply below_drew1 | refine below_set ?_ GE297.out | refine below_set ?_ GE298.out | refine below_set ?_ GE306.out | refine below_set ?_ GE313.out | refine below_set ?_ GE325.out | refine below_set ?_ GE329.out) | exact HB.out)⟩⟩
    case rest =>
     clear HC19
     try clear c1
     try clear hcv1
     try clear c2
     try clear p2
     try clear c3
     try clear c4
     try clear c5
     try clear c6
     try clear c7
     try clear hcv7
     try clear c8
     try clear c9
     try clear hcv9
     try clear c10
     try clear hcv10
     try clear c11
     try clear c11b0
     try clear c11b1
     try clear c12
     try clear hcv12
     try clear c13
     try clear hcv13
     try clear c14
     try clear c15
     try clear hcv15
     try clear c16
     try clear hcv16
     try clear c22
     try clear c23
     try clear c28
     try clear c29
     try clear c30
     try clear c37
     try clear c38
     try clear c39
     try clear c40
     try clear c44
     try clear c45
     try clear c46
     try clear c47
     try clear c48
     try clear c50
     try clear c50b0
     try clear c50b1
     try clear c50b2
     try clear c51
     try clear c52
     try clear c53
     try clear c54
     try clear c55
     try clear c57
     try clear c58
     try clear c59
     try clear c60
     try clear c62
     try clear c62b0
     try clear c62b1
     try clear c63
     try clear c63b0
     try clear c63b1
     try clear c63b2
     try clear c64
     try clear c65
     try clear c66
     try clear c67
     try clear c68
     try clear c70
     try clear c71
     try clear c72
     try clear c73
     try clear hcv75
     try clear hcv76
     try clear c78
     try clear c79
     try clear c79b0
     try clear c79b1
     try clear c79b2
     try clear c80
     try clear c81
     try clear c82
     try clear c83
     try clear c84
     try clear c86
     try clear c87
     try clear c88
     try clear c89
     try clear hcv91
     try clear hcv92
     try clear c95
     try clear c95b0
     try clear c96
     try clear c97
     try clear c98
     try clear c99
     try clear c100
     try clear c102
     try clear c103
     try clear c104
     try clear c105
     try clear hcv107
     try clear hcv108
     try clear c111
     try clear c112
     try clear c113
     try clear c115
     try clear c116
     try clear c118
     try clear c119
     try clear c120
     try clear c121
     try clear c122
     try clear c124
     try clear c125
     try clear c126
     try clear c127
     try clear hcv129
     try clear hcv130
     try clear c133
     try clear c134
     try clear c135
     try clear c137
     try clear c138
     try clear c140
     try clear c141
     try clear c142
     try clear c143
     try clear c144
     try clear c146
     try clear c147
     try clear c148
     try clear c149
     try clear hcv151
     try clear hcv152
     try clear c155
     try clear c156
     try clear c157
     try clear c158
     try clear c159
     try clear c161
     try clear c162
     try clear c163
     try clear c164
     try clear hcv166
     try clear hcv167
     try clear hcz101_0
     try clear hcz101_1
     try clear hcz106_0
     try clear hcz106_1
     try clear hcz114_0
     try clear hcz114_1
     try clear hcz117_0
     try clear hcz117_1
     try clear hcz123_0
     try clear hcz123_1
     try clear hcz128_0
     try clear hcz128_1
     try clear hcz136_0
     try clear hcz136_1
     try clear hcz139_0
     try clear hcz139_1
     try clear hcz145_0
     try clear hcz145_1
     try clear hcz150_0
     try clear hcz150_1
     try clear hcz160_0
     try clear hcz160_1
     try clear hcz165_0
     try clear hcz165_1
     try clear hcz24_0
     try clear hcz24_1
     try clear hcz31_0
     try clear hcz31_1
     try clear hcz41_0
     try clear hcz41_1
     try clear hcz49_0
     try clear hcz49_1
     try clear hcz56_0
     try clear hcz56_1
     try clear hcz61_0
     try clear hcz61_1
     try clear hcz69_0
     try clear hcz69_1
     try clear hcz74_0
     try clear hcz74_1
     try clear hcz85_0
     try clear hcz85_1
     try clear hcz90_0
     try clear hcz90_1
     try clear hfz101_0
     try clear hfz101_1
     try clear hfz106_0
     try clear hfz106_1
     try clear hfz114_0
     try clear hfz114_1
     try clear hfz117_0
     try clear hfz117_1
     try clear hfz123_0
     try clear hfz123_1
     try clear hfz128_0
     try clear hfz128_1
     try clear hfz136_0
     try clear hfz136_1
     try clear hfz139_0
     try clear hfz139_1
     try clear hfz145_0
     try clear hfz145_1
     try clear hfz150_0
     try clear hfz150_1
     try clear hfz160_0
     try clear hfz160_1
     try clear hfz165_0
     try clear hfz165_1
     try clear hfz24_0
     try clear hfz24_1
     try clear hfz31_0
     try clear hfz31_1
     try clear hfz41_0
     try clear hfz41_1
     try clear hfz49_0
     try clear hfz49_1
     try clear hfz56_0
     try clear hfz56_1
     try clear hfz61_0
     try clear hfz61_1
     try clear hfz69_0
     try clear hfz69_1
     try clear hfz74_0
     try clear hfz74_1
     try clear hfz85_0
     try clear hfz85_1
     try clear hfz90_0
     try clear hfz90_1
     try clear p2
     obtain ⟨kq, x103_18, rfl, HA, HJ18, BK297, BK298, BK306, BK313, BK325, BK329, HB⟩ := hcut
     cases kq with
     | zero => exact absurd HA.out (by simp [ridgewaylaw02_PrefixIs.j1])
     | succ kj18 =>
      have H := HA.out
      clear HA
      simp only [ridgewaylaw02_PrefixIs.j1] at H
      by_cases c168 : x103_18 = true
      ·subst c168
       have H1 : (none) = some r := by rw [if_pos rfl] at H; exact H
       clear H
       have H := H1
       clear H1
       exact absurd H (by simp)
      ·replace c168 := Bool.eq_false_iff.mpr c168
       subst c168
       have H1 : (if t299 = true then ((prefix_Mask.f a0_0 a2).bind fun t331 => ((ridgewayref02_Mask.f kj18 a0_0 a2).bind fun t332 => (if t331 = t332 then ((prefix_Sane.f a0_0 a0_1).bind fun t333 => ((ridgewayref02_Sane.f kj18 a0_0 a0_1).bind fun t334 => (if (t333 == t334) = true then ((prefix_Has.f a0_0 a0_1 a1_0 a1_1).bind fun t335 => ((ridgewayref02_Has.f kj18 a0_0 a0_1 a1_0 a1_1).bind fun t336 => (if (t335 == t336) = true then ((prefix_Compare.f kj18 a0_0 a0_1 a1_0 a1_1).bind fun t337 => ((ridgewayref02_Compare.f kj18 a0_0 a0_1 a1_0 a1_1).bind fun t338 => (if t337 = t338 then ((prefix_Put.f kj18 l3 a0_0 a0_1).bind fun t339 => ((ridgewayref02_Put.f kj18 l3 a0_0 a0_1).bind fun t342 => (if (strOfNums t339).toList = (strOfNums t342).toList then ((prefix_Text.f kj18 a0_0 a0_1).bind fun t345 => ((ridgewayref02_Text.f kj18 a0_0 a0_1).bind fun t346 => (some (t345.toList == t346.toList)))) else (none)))) else (none)))) else (none)))) else (none)))) else (none)))) else (none)) = some r := by rw [if_neg (show ¬ (false = true) by decide)] at H; exact H
       clear H
       have H := H1
       clear H1
       by_cases c169 : t299 = true
       ·subst c169
        have H1 : ((prefix_Mask.f a0_0 a2).bind fun t331 => ((ridgewayref02_Mask.f kj18 a0_0 a2).bind fun t332 => (if t331 = t332 then ((prefix_Sane.f a0_0 a0_1).bind fun t333 => ((ridgewayref02_Sane.f kj18 a0_0 a0_1).bind fun t334 => (if (t333 == t334) = true then ((prefix_Has.f a0_0 a0_1 a1_0 a1_1).bind fun t335 => ((ridgewayref02_Has.f kj18 a0_0 a0_1 a1_0 a1_1).bind fun t336 => (if (t335 == t336) = true then ((prefix_Compare.f kj18 a0_0 a0_1 a1_0 a1_1).bind fun t337 => ((ridgewayref02_Compare.f kj18 a0_0 a0_1 a1_0 a1_1).bind fun t338 => (if t337 = t338 then ((prefix_Put.f kj18 l3 a0_0 a0_1).bind fun t339 => ((ridgewayref02_Put.f kj18 l3 a0_0 a0_1).bind fun t342 => (if (strOfNums t339).toList = (strOfNums t342).toList then ((prefix_Text.f kj18 a0_0 a0_1).bind fun t345 => ((ridgewayref02_Text.f kj18 a0_0 a0_1).bind fun t346 => (some (t345.toList == t346.toList)))) else (none)))) else (none)))) else (none)))) else (none)))) else (none)))) = some r := by rw [if_pos rfl] at H; exact H
        clear H
        have H := H1
        clear H1
        replace H := Option.bind_eq_some_iff.mp H
        obtain ⟨t331, A1700, H⟩ := H
        replace H : ((ridgewayref02_Mask.f kj18 a0_0 a2).bind fun t332 => (if t331 = t332 then ((prefix_Sane.f a0_0 a0_1).bind fun t333 => ((ridgewayref02_Sane.f kj18 a0_0 a0_1).bind fun t334 => (if (t333 == t334) = true then ((prefix_Has.f a0_0 a0_1 a1_0 a1_1).bind fun t335 => ((ridgewayref02_Has.f kj18 a0_0 a0_1 a1_0 a1_1).bind fun t336 => (if (t335 == t336) = true then ((prefix_Compare.f kj18 a0_0 a0_1 a1_0 a1_1).bind fun t337 => ((ridgewayref02_Compare.f kj18 a0_0 a0_1 a1_0 a1_1).bind fun t338 => (if t337 = t338 then ((prefix_Put.f kj18 l3 a0_0 a0_1).bind fun t339 => ((ridgewayref02_Put.f kj18 l3 a0_0 a0_1).bind fun t342 => (if (strOfNums t339).toList = (strOfNums t342).toList then ((prefix_Text.f kj18 a0_0 a0_1).bind fun t345 => ((ridgewayref02_Text.f kj18 a0_0 a0_1).bind fun t346 => (some (t345.toList == t346.toList)))) else (none)))) else (none)))) else (none)))) else (none)))) else (none))) = some r := H
        have A170 := Aside0.mk A1700
        clear A1700
        replace H := Option.bind_eq_some_iff.mp H
        obtain ⟨t332, A1710, H⟩ := H
        replace H : (if t331 = t332 then ((prefix_Sane.f a0_0 a0_1).bind fun t333 => ((ridgewayref02_Sane.f kj18 a0_0 a0_1).bind fun t334 => (if (t333 == t334) = true then ((prefix_Has.f a0_0 a0_1 a1_0 a1_1).bind fun t335 => ((ridgewayref02_Has.f kj18 a0_0 a0_1 a1_0 a1_1).bind fun t336 => (if (t335 == t336) = true then ((prefix_Compare.f kj18 a0_0 a0_1 a1_0 a1_1).bind fun t337 => ((ridgewayref02_Compare.f kj18 a0_0 a0_1 a1_0 a1_1).bind fun t338 => (if t337 = t338 then ((prefix_Put.f kj18 l3 a0_0 a0_1).bind fun t339 => ((ridgewayref02_Put.f kj18 l3 a0_0 a0_1).bind fun t342 => (if (strOfNums t339).toList = (strOfNums t342).toList then ((prefix_Text.f kj18 a0_0 a0_1).bind fun t345 => ((ridgewayref02_Text.f kj18 a0_0 a0_1).bind fun t346 => (some (t345.toList == t346.toList)))) else (none)))) else (none)))) else (none)))) else (none)))) else (none)) = some r := H
        have A171 := Aside0.mk A1710
        clear A1710
        by_cases c172 : t331 = t332
        ·rw [if_pos c172] at H
         have c172b0 : (t331 == t332) = true := beq_iff_eq.mpr c172
         have c172b1 : (t331 != t332) = false := bne_eq_false_iff_eq.mpr c172
         clear c172
         replace H := Option.bind_eq_some_iff.mp H
         obtain ⟨t333, A1730, H⟩ := H
         replace H : ((ridgewayref02_Sane.f kj18 a0_0 a0_1).bind fun t334 => (if (t333 == t334) = true then ((prefix_Has.f a0_0 a0_1 a1_0 a1_1).bind fun t335 => ((ridgewayref02_Has.f kj18 a0_0 a0_1 a1_0 a1_1).bind fun t336 => (if (t335 == t336) = true then ((prefix_Compare.f kj18 a0_0 a0_1 a1_0 a1_1).bind fun t337 => ((ridgewayref02_Compare.f kj18 a0_0 a0_1 a1_0 a1_1).bind fun t338 => (if t337 = t338 then ((prefix_Put.f kj18 l3 a0_0 a0_1).bind fun t339 => ((ridgewayref02_Put.f kj18 l3 a0_0 a0_1).bind fun t342 => (if (strOfNums t339).toList = (strOfNums t342).toList then ((prefix_Text.f kj18 a0_0 a0_1).bind fun t345 => ((ridgewayref02_Text.f kj18 a0_0 a0_1).bind fun t346 => (some (t345.toList == t346.toList)))) else (none)))) else (none)))) else (none)))) else (none))) = some r := H
         have A173 := Aside0.mk A1730
         clear A1730
         replace H := Option.bind_eq_some_iff.mp H
         obtain ⟨t334, A1740, H⟩ := H
         replace H : (if (t333 == t334) = true then ((prefix_Has.f a0_0 a0_1 a1_0 a1_1).bind fun t335 => ((ridgewayref02_Has.f kj18 a0_0 a0_1 a1_0 a1_1).bind fun t336 => (if (t335 == t336) = true then ((prefix_Compare.f kj18 a0_0 a0_1 a1_0 a1_1).bind fun t337 => ((ridgewayref02_Compare.f kj18 a0_0 a0_1 a1_0 a1_1).bind fun t338 => (if t337 = t338 then ((prefix_Put.f kj18 l3 a0_0 a0_1).bind fun t339 => ((ridgewayref02_Put.f kj18 l3 a0_0 a0_1).bind fun t342 => (if (strOfNums t339).toList = (strOfNums t342).toList then ((prefix_Text.f kj18 a0_0 a0_1).bind fun t345 => ((ridgewayref02_Text.f kj18 a0_0 a0_1).bind fun t346 => (some (t345.toList == t346.toList)))) else (none)))) else (none)))) else (none)))) else (none)) = some r := H
         have A174 := Aside0.mk A1740
         clear A1740
         by_cases c175 : (t333 == t334) = true
         ·rw [if_pos c175] at H
          have c175b0 : (t333 == t334) = true := c175
          (try (have c175b1 : decide (t333 = t334) = true := by simpa using c175))
          (try (have c175b2 : (t333 == t334) = true := by simpa using c175))
          clear c175
          replace H := Option.bind_eq_some_iff.mp H
          obtain ⟨t335, A1760, H⟩ := H
          replace H : ((ridgewayref02_Has.f kj18 a0_0 a0_1 a1_0 a1_1).bind fun t336 => (if (t335 == t336) = true then ((prefix_Compare.f kj18 a0_0 a0_1 a1_0 a1_1).bind fun t337 => ((ridgewayref02_Compare.f kj18 a0_0 a0_1 a1_0 a1_1).bind fun t338 => (if t337 = t338 then ((prefix_Put.f kj18 l3 a0_0 a0_1).bind fun t339 => ((ridgewayref02_Put.f kj18 l3 a0_0 a0_1).bind fun t342 => (if (strOfNums t339).toList = (strOfNums t342).toList then ((prefix_Text.f kj18 a0_0 a0_1).bind fun t345 => ((ridgewayref02_Text.f kj18 a0_0 a0_1).bind fun t346 => (some (t345.toList == t346.toList)))) else (none)))) else (none)))) else (none))) = some r := H
          have A176 := Aside0.mk A1760
          clear A1760
          replace H := Option.bind_eq_some_iff.mp H
          obtain ⟨t336, A1770, H⟩ := H
          replace H : (if (t335 == t336) = true then ((prefix_Compare.f kj18 a0_0 a0_1 a1_0 a1_1).bind fun t337 => ((ridgewayref02_Compare.f kj18 a0_0 a0_1 a1_0 a1_1).bind fun t338 => (if t337 = t338 then ((prefix_Put.f kj18 l3 a0_0 a0_1).bind fun t339 => ((ridgewayref02_Put.f kj18 l3 a0_0 a0_1).bind fun t342 => (if (strOfNums t339).toList = (strOfNums t342).toList then ((prefix_Text.f kj18 a0_0 a0_1).bind fun t345 => ((ridgewayref02_Text.f kj18 a0_0 a0_1).bind fun t346 => (some (t345.toList == t346.toList)))) else (none)))) else (none)))) else (none)) = some r := H
          have A177 := Aside0.mk A1770
          clear A1770
          by_cases c178 : (t335 == t336) = true
          ·rw [if_pos c178] at H
           have c178b0 : (t335 == t336) = true := c178
           (try (have c178b1 : decide (t335 = t336) = true := by simpa using c178))
           (try (have c178b2 : (t335 == t336) = true := by simpa using c178))
           clear c178
           replace H := Option.bind_eq_some_iff.mp H
           obtain ⟨t337, A1790, H⟩ := H
           replace H : ((ridgewayref02_Compare.f kj18 a0_0 a0_1 a1_0 a1_1).bind fun t338 => (if t337 = t338 then ((prefix_Put.f kj18 l3 a0_0 a0_1).bind fun t339 => ((ridgewayref02_Put.f kj18 l3 a0_0 a0_1).bind fun t342 => (if (strOfNums t339).toList = (strOfNums t342).toList then ((prefix_Text.f kj18 a0_0 a0_1).bind fun t345 => ((ridgewayref02_Text.f kj18 a0_0 a0_1).bind fun t346 => (some (t345.toList == t346.toList)))) else (none)))) else (none))) = some r := H
           have A179 := Aside0.mk A1790
           clear A1790
           replace H := Option.bind_eq_some_iff.mp H
           obtain ⟨t338, A1800, H⟩ := H
           replace H : (if t337 = t338 then ((prefix_Put.f kj18 l3 a0_0 a0_1).bind fun t339 => ((ridgewayref02_Put.f kj18 l3 a0_0 a0_1).bind fun t342 => (if (strOfNums t339).toList = (strOfNums t342).toList then ((prefix_Text.f kj18 a0_0 a0_1).bind fun t345 => ((ridgewayref02_Text.f kj18 a0_0 a0_1).bind fun t346 => (some (t345.toList == t346.toList)))) else (none)))) else (none)) = some r := H
           have A180 := Aside0.mk A1800
           clear A1800
           by_cases c181 : t337 = t338
           ·rw [if_pos c181] at H
            have c181b0 : (t337 == t338) = true := beq_iff_eq.mpr c181
            have c181b1 : (t337 != t338) = false := bne_eq_false_iff_eq.mpr c181
            clear c181
            replace H := Option.bind_eq_some_iff.mp H
            obtain ⟨t339, A1820, H⟩ := H
            replace H : ((ridgewayref02_Put.f kj18 l3 a0_0 a0_1).bind fun t342 => (if (strOfNums t339).toList = (strOfNums t342).toList then ((prefix_Text.f kj18 a0_0 a0_1).bind fun t345 => ((ridgewayref02_Text.f kj18 a0_0 a0_1).bind fun t346 => (some (t345.toList == t346.toList)))) else (none))) = some r := H
            have A182 := Aside0.mk A1820
            clear A1820
            replace H := Option.bind_eq_some_iff.mp H
            obtain ⟨t342, A1830, H⟩ := H
            replace H : (if (strOfNums t339).toList = (strOfNums t342).toList then ((prefix_Text.f kj18 a0_0 a0_1).bind fun t345 => ((ridgewayref02_Text.f kj18 a0_0 a0_1).bind fun t346 => (some (t345.toList == t346.toList)))) else (none)) = some r := H
            have A183 := Aside0.mk A1830
            clear A1830
            by_cases c184 : (strOfNums t339).toList = (strOfNums t342).toList
            ·rw [if_pos c184] at H
             have c184b0 : ((strOfNums t339).toList == (strOfNums t342).toList) = true := beq_iff_eq.mpr c184
             have c184b1 : ((strOfNums t339).toList != (strOfNums t342).toList) = false := bne_eq_false_iff_eq.mpr c184
             clear c184
             replace H := Option.bind_eq_some_iff.mp H
             obtain ⟨t345, A1850, H⟩ := H
             replace H : ((ridgewayref02_Text.f kj18 a0_0 a0_1).bind fun t346 => (some (t345.toList == t346.toList))) = some r := H
             have A185 := Aside0.mk A1850
             clear A1850
             replace H := Option.bind_eq_some_iff.mp H
             obtain ⟨t346, A1860, H⟩ := H
             replace H : (some (t345.toList == t346.toList)) = some r := H
             have A186 := Aside0.mk A1860
             clear A1860
             obtain rfl := Option.some.inj H
             try go_wp2
             have n0_ := Aside0.mk (blk_drew BK297.out)
             have n1_ := Aside0.mk (blk_drew BK298.out)
             have n2_ := Aside0.mk (blk_drew BK306.out)
             have n3_ := Aside0.mk (blk_drew BK313.out)
             have n4_ := Aside0.mk (blk_drew BK325.out)
             have n5_ := Aside0.mk (blk_drew BK329.out)
             have n6_ := Aside0.mk (below_drew1 HB.out)
             clear BK297
             clear BK298
             clear BK306
             clear BK313
             clear BK325
             clear BK329
             clear HB
             have BK297 := n0_
             have BK298 := n1_
             have BK306 := n2_
             have BK313 := n3_
             have BK325 := n4_
             have BK329 := n5_
             have HB := n6_
             clear n0_ n1_ n2_ n3_ n4_ n5_ n6_
             refine start_ (n := 56) (S := fun w' => w'.cell? ⟨gb297, 0, none⟩ = some (.int .i64 a0_0) ∧ w'.cell? ⟨gb297, 1, none⟩ = some (.int .i64 a0_1) ∧ w'.cell? ⟨gb298, 0, none⟩ = some (.int .i64 a1_0) ∧ w'.cell? ⟨gb298, 1, none⟩ = some (.int .i64 a1_1)) (ds := []) #[false, false, false, false, false, false, false, false, false, false, false, false, false, false, false, false, false, false, false, false, false, false, false, false, false, false, false, false, false, false, false, false, false, false, false, false, false, false, false, false, false, false, false, false, false, false, false, false, false, false, false, false, false, false, false, false] (by kernel_rfl) rfl rfl ⟨(blk_cell BK297.out 0).trans rfl, (blk_cell BK297.out 1).trans rfl, (blk_cell BK298.out 0).trans rfl, (blk_cell BK298.out 1).trans rfl⟩ (fun hHeld => ?_); refine with_tabW ridgewaylaw02_PrefixIs.tab12 ridgewaylaw02_PrefixIs.bits12 (fun HT_ HW_ => ?_)
             generalize wc.drew = w187 at BK297 BK298 BK306 BK313 BK325 BK329 HB hHeld ⊢
             refine pure_ (i := 0) (N := some 104) (v := ?_) (a' := ?_) #[true, false, false, false, false, false, false, false, false, false, false, false, false, false, false, false, false, false, false, false, false, false, false, false, false, false, false, false, false, false, false, false, false, false, false, false, false, false, false, false, false, false, false, false, false, false, false, false, false, false, false, false, false, false, false, false] rfl rfl (any_of HT_.out (by kernel_rfl)) (fun _ _ _ h => h) (Or.inl ⟨by rfl, ?_⟩) ?_ ?_
             rotate_left
             ·intro w'
              go_simp
              with_reducible rfl
             rotate_left
             ·simp only [Act.put, q14a, q14b, q14c, i64_w, i32_w]
              rfl
             refine pure_ (i := 1) (N := some 105) (v := ?_) (a' := ?_) #[true, true, false, false, false, false, false, false, false, false, false, false, false, false, false, false, false, false, false, false, false, false, false, false, false, false, false, false, false, false, false, false, false, false, false, false, false, false, false, false, false, false, false, false, false, false, false, false, false, false, false, false, false, false, false, false] rfl rfl (any_of HT_.out (by kernel_rfl)) (fun _ _ _ h => h) (Or.inl ⟨by rfl, ?_⟩) ?_ ?_
             rotate_left
             ·intro w'
              go_simp
              with_reducible rfl
             rotate_left
             ·simp only [Act.put, q14a, q14b, q14c, i64_w, i32_w]
              rfl
             refine pure_ (i := 2) (N := some 106) (v := ?_) (a' := ?_) #[true, true, true, false, false, false, false, false, false, false, false, false, false, false, false, false, false, false, false, false, false, false, false, false, false, false, false, false, false, false, false, false, false, false, false, false, false, false, false, false, false, false, false, false, false, false, false, false, false, false, false, false, false, false, false, false] rfl rfl (any_of HT_.out (by kernel_rfl)) (fun _ _ _ h => h) (Or.inl ⟨by rfl, ?_⟩) ?_ ?_
             rotate_left
             ·intro w'
              go_simp
              with_reducible rfl
             rotate_left
             ·simp only [Act.put, q14a, q14b, q14c, i64_w, i32_w]
              rfl
             refine pure_ (i := 4) (N := some 108) (v := ?_) (a' := ?_) #[true, true, true, false, true, false, false, false, false, false, false, false, false, false, false, false, false, false, false, false, false, false, false, false, false, false, false, false, false, false, false, false, false, false, false, false, false, false, false, false, false, false, false, false, false, false, false, false, false, false, false, false, false, false, false, false] rfl rfl (any_of HT_.out (by kernel_rfl)) (fun _ _ _ h => h) (Or.inl ⟨by rfl, ?_⟩) ?_ ?_
             rotate_left
             ·intro w'
              go_simp
              with_reducible rfl
             rotate_left
             ·simp only [Act.put, q14a, q14b, q14c, i64_w, i32_w]
              rfl
             refine pure_ (i := 6) (N := some 110) (v := ?_) (a' := ?_) #[true, true, true, false, true, false, true, false, false, false, false, false, false, false, false, false, false, false, false, false, false, false, false, false, false, false, false, false, false, false, false, false, false, false, false, false, false, false, false, false, false, false, false, false, false, false, false, false, false, false, false, false, false, false, false, false] rfl rfl (any_of HT_.out (by kernel_rfl)) (fun _ _ _ h => h) (Or.inl ⟨by rfl, ?_⟩) ?_ ?_
             rotate_left
             ·intro w'
              go_simp
              with_reducible rfl
             rotate_left
             ·simp only [Act.put, q14a, q14b, q14c, i64_w, i32_w]
              rfl
             refine pure_ (i := 8) (N := some 112) (v := ?_) (a' := ?_) #[true, true, true, false, true, false, true, false, true, false, false, false, false, false, false, false, false, false, false, false, false, false, false, false, false, false, false, false, false, false, false, false, false, false, false, false, false, false, false, false, false, false, false, false, false, false, false, false, false, false, false, false, false, false, false, false] rfl rfl (any_of HT_.out (by kernel_rfl)) (fun _ _ _ h => h) (Or.inl ⟨by rfl, ?_⟩) ?_ ?_
             rotate_left
             ·intro w'
              go_simp
              with_reducible rfl
             rotate_left
             ·simp only [Act.put, q14a, q14b, q14c, i64_w, i32_w]
              rfl
             refine take_ (i := 3) (N := some 107) (v := ?_) (a' := ?_) #[true, true, true, true, true, false, true, false, true, false, false, false, false, false, false, false, false, false, false, false, false, false, false, false, false, false, false, false, false, false, false, false, false, false, false, false, false, false, false, false, false, false, false, false, false, false, false, false, false, false, false, false, false, false, false, false] rfl rfl (take_ofW HT_.out HW_.out (by kernel_rfl)) (fun _ _ _ h => h) (Or.inl ⟨by rfl, ?_⟩) hHeld ?_ ?_
             rotate_left
             ·rintro w' ⟨s0, s1, s2, s3⟩
              go_simp
              with_reducible rfl
             rotate_left
             ·simp only [Act.put, q14a, q14b, q14c, i64_w, i32_w]
              rfl
             refine take_ (i := 7) (N := some 111) (v := ?_) (a' := ?_) #[true, true, true, true, true, false, true, true, true, false, false, false, false, false, false, false, false, false, false, false, false, false, false, false, false, false, false, false, false, false, false, false, false, false, false, false, false, false, false, false, false, false, false, false, false, false, false, false, false, false, false, false, false, false, false, false] rfl rfl (take_ofW HT_.out HW_.out (by kernel_rfl)) (fun _ _ _ h => h) (Or.inl ⟨by rfl, ?_⟩) hHeld ?_ ?_
             rotate_left
             ·rintro w' ⟨s0, s1, s2, s3⟩
              go_simp
              with_reducible rfl
             rotate_left
             ·simp only [Act.put, q14a, q14b, q14c, i64_w, i32_w]
              rfl
             refine one_ (i := 5) (N := some 109) #[true, true, true, true, true, true, true, true, true, false, false, false, false, false, false, false, false, false, false, false, false, false, false, false, false, false, false, false, false, false, false, false, false, false, false, false, false, false, false, false, false, false, false, false, false, false, false, false, false, false, false, false, false, false, false, false] rfl rfl (one_of HT_.out (by kernel_rfl)) (by decide) (fun K hK => ?_)
             refine goes_ Tryd.func18 (by kernel_rfl) rfl #[.int .i64 a0_0, .int .i64 a2] (by rfl) rfl rfl (by (try simp only [List.map_toArray, List.map_cons, List.map_nil]); first | done | rfl | (simp only [List.length_drop, List.length_take]; rfl)) ?_
             with_reducible refine (prefix_Mask.calls a0_0 a2 t331 _ A170.out).mono ?_
             rintro e w188 ⟨rfl, hb⟩
             refine ⟨_, rfl, ?_⟩
             have n0_ := Aside0.mk (blk_below (g := gb297) (o := .cells #[.int .i64 a0_0, .int .i64 a0_1] 23 (0, 0)) (by (with_reducible repeat (first | refine blk_drewN ?_ _ | refine blk_drew ?_ | refine blk_alloc ?_ _)); exact BK297.out) hb)
             have n1_ := Aside0.mk (blk_below (g := gb298) (o := .cells #[.int .i64 a1_0, .int .i64 a1_1] 23 (0, 0)) (by (with_reducible repeat (first | refine blk_drewN ?_ _ | refine blk_drew ?_ | refine blk_alloc ?_ _)); exact BK298.out) hb)
             have n2_ := Aside0.mk (blk_below (g := gb306) (o := .cells #[.int .i64 t300, .int .i64 t301] 23 (0, 0)) (by (with_reducible repeat (first | refine blk_drewN ?_ _ | refine blk_drew ?_ | refine blk_alloc ?_ _)); exact BK306.out) hb)
             have n3_ := Aside0.mk (blk_below (g := gb313) (o := .cells #[.int .i64 t307, .int .i64 t308] 23 (0, 0)) (by (with_reducible repeat (first | refine blk_drewN ?_ _ | refine blk_drew ?_ | refine blk_alloc ?_ _)); exact BK313.out) hb)
             have n4_ := Aside0.mk (blk_below (g := gb325) (o := .cells #[.int .i64 t322, .int .i64 t323] 23 (0, 0)) (by (with_reducible repeat (first | refine blk_drewN ?_ _ | refine blk_drew ?_ | refine blk_alloc ?_ _)); exact BK325.out) hb)
             have n5_ := Aside0.mk (blk_below (g := gb329) (o := .cells #[.int .i64 t326, .int .i64 t327] 23 (0, 0)) (by (with_reducible repeat (first | refine blk_drewN ?_ _ | refine blk_drew ?_ | refine blk_alloc ?_ _)); exact BK329.out) hb)
             have n6_ := Aside0.mk (below_step (by repeat (first | (with_reducible first | exact HB.out | apply below_alloc | apply pw_below_drewN | apply below_drew1 | refine below_set ?_ GE297.out | refine below_set ?_ GE298.out | refine below_set ?_ GE306.out | refine below_set ?_ GE313.out | refine below_set ?_ GE325.out | refine below_set ?_ GE329.out) | exact HB.out)) hb)
             clear BK297
             clear BK298
             clear BK306
             clear BK313
             clear BK325
             clear BK329
             clear HB
             have BK297 := n0_
             have BK298 := n1_
             have BK306 := n2_
             have BK313 := n3_
             have BK325 := n4_
             have BK329 := n5_
             have HB := n6_
             clear n0_ n1_ n2_ n3_ n4_ n5_ n6_
             (try clear hb)
             (try clear hb2)
             (try clear hk)
             (try clear hi)
             refine hK.out _ _ ⟨(blk_cell BK297.out 0).trans rfl, (blk_cell BK297.out 1).trans rfl, (blk_cell BK298.out 0).trans rfl, (blk_cell BK298.out 1).trans rfl⟩ (fun hHeld => ?_)
             clear hK K
             refine norm_ (a' := ?_) ?_ ?_
             rotate_left
             ·show Act.put _ (some 109) _ = _
              simp only [Act.put, q14a, q14b, q14c, i64_w, i32_w]
              rfl
             refine one_ (i := 9) (N := some 113) #[true, true, true, true, true, true, true, true, true, true, false, false, false, false, false, false, false, false, false, false, false, false, false, false, false, false, false, false, false, false, false, false, false, false, false, false, false, false, false, false, false, false, false, false, false, false, false, false, false, false, false, false, false, false, false, false] rfl rfl (one_of HT_.out (by kernel_rfl)) (by decide) (fun K hK => ?_)
             refine goes_ Tryd.func19 (by kernel_rfl) rfl #[.int .i64 a0_0, .int .i64 a2] (by rfl) rfl rfl (by (try simp only [List.map_toArray, List.map_cons, List.map_nil]); first | done | rfl | (simp only [List.length_drop, List.length_take]; rfl)) ?_
             with_reducible refine (ridgewayref02_Mask.calls kj18 a0_0 a2 t332 _ A171.out).mono ?_
             rintro e w189 ⟨rfl, hb⟩
             refine ⟨_, rfl, ?_⟩
             have n0_ := Aside0.mk (blk_below (g := gb297) (o := .cells #[.int .i64 a0_0, .int .i64 a0_1] 23 (0, 0)) (by (with_reducible repeat (first | refine blk_drewN ?_ _ | refine blk_drew ?_ | refine blk_alloc ?_ _)); exact BK297.out) hb)
             have n1_ := Aside0.mk (blk_below (g := gb298) (o := .cells #[.int .i64 a1_0, .int .i64 a1_1] 23 (0, 0)) (by (with_reducible repeat (first | refine blk_drewN ?_ _ | refine blk_drew ?_ | refine blk_alloc ?_ _)); exact BK298.out) hb)
             have n2_ := Aside0.mk (blk_below (g := gb306) (o := .cells #[.int .i64 t300, .int .i64 t301] 23 (0, 0)) (by (with_reducible repeat (first | refine blk_drewN ?_ _ | refine blk_drew ?_ | refine blk_alloc ?_ _)); exact BK306.out) hb)
             have n3_ := Aside0.mk (blk_below (g := gb313) (o := .cells #[.int .i64 t307, .int .i64 t308] 23 (0, 0)) (by (with_reducible repeat (first | refine blk_drewN ?_ _ | refine blk_drew ?_ | refine blk_alloc ?_ _)); exact BK313.out) hb)
             have n4_ := Aside0.mk (blk_below (g := gb325) (o := .cells #[.int .i64 t322, .int .i64 t323] 23 (0, 0)) (by (with_reducible repeat (first | refine blk_drewN ?_ _ | refine blk_drew ?_ | refine blk_alloc ?_ _)); exact BK325.out) hb)
             have n5_ := Aside0.mk (blk_below (g := gb329) (o := .cells #[.int .i64 t326, .int .i64 t327] 23 (0, 0)) (by (with_reducible repeat (first | refine blk_drewN ?_ _ | refine blk_drew ?_ | refine blk_alloc ?_ _)); exact BK329.out) hb)
             have n6_ := Aside0.mk (below_step (by repeat (first | (with_reducible first | exact HB.out | apply below_alloc | apply pw_below_drewN | apply below_drew1 | refine below_set ?_ GE297.out | refine below_set ?_ GE298.out | refine below_set ?_ GE306.out | refine below_set ?_ GE313.out | refine below_set ?_ GE325.out | refine below_set ?_ GE329.out) | exact HB.out)) hb)
             clear BK297
             clear BK298
             clear BK306
             clear BK313
             clear BK325
             clear BK329
             clear HB
             have BK297 := n0_
             have BK298 := n1_
             have BK306 := n2_
             have BK313 := n3_
             have BK325 := n4_
             have BK329 := n5_
             have HB := n6_
             clear n0_ n1_ n2_ n3_ n4_ n5_ n6_
             (try clear hb)
             (try clear hb2)
             (try clear hk)
             (try clear hi)
             refine hK.out _ _ ⟨(blk_cell BK297.out 0).trans rfl, (blk_cell BK297.out 1).trans rfl, (blk_cell BK298.out 0).trans rfl, (blk_cell BK298.out 1).trans rfl⟩ (fun hHeld => ?_)
             clear hK K
             refine norm_ (a' := ?_) ?_ ?_
             rotate_left
             ·show Act.put _ (some 113) _ = _
              simp only [Act.put, q14a, q14b, q14c, i64_w, i32_w]
              rfl
             refine pure_ (i := 10) (N := some 114) (v := ?_) (a' := ?_) #[true, true, true, true, true, true, true, true, true, true, true, false, false, false, false, false, false, false, false, false, false, false, false, false, false, false, false, false, false, false, false, false, false, false, false, false, false, false, false, false, false, false, false, false, false, false, false, false, false, false, false, false, false, false, false, false] rfl rfl (any_of HT_.out (by kernel_rfl)) (fun _ _ _ h => h) (Or.inl ⟨by rfl, ?_⟩) ?_ ?_
             rotate_left
             ·intro w'
              go_simp
              with_reducible rfl
             rotate_left
             ·simp only [Act.put, q14a, q14b, q14c, i64_w, i32_w]
              rfl
             refine pure_ (i := 11) (N := some 115) (v := ?_) (a' := ?_) #[true, true, true, true, true, true, true, true, true, true, true, true, false, false, false, false, false, false, false, false, false, false, false, false, false, false, false, false, false, false, false, false, false, false, false, false, false, false, false, false, false, false, false, false, false, false, false, false, false, false, false, false, false, false, false, false] rfl rfl (any_of HT_.out (by kernel_rfl)) (fun _ _ _ h => h) (Or.inl ⟨by rfl, ?_⟩) ?_ ?_
             rotate_left
             ·intro w'
              go_simp
              with_reducible rfl
             rotate_left
             ·simp only [Act.put, q14a, q14b, q14c, i64_w, i32_w]
              rfl
             refine pure_ (i := 12) (N := some 116) (v := ?_) (a' := ?_) #[true, true, true, true, true, true, true, true, true, true, true, true, true, false, false, false, false, false, false, false, false, false, false, false, false, false, false, false, false, false, false, false, false, false, false, false, false, false, false, false, false, false, false, false, false, false, false, false, false, false, false, false, false, false, false, false] rfl rfl (any_of HT_.out (by kernel_rfl)) (fun _ _ _ h => h) (Or.inl ⟨by rfl, ?_⟩) ?_ ?_
             rotate_left
             ·intro w'
              go_simp
              with_reducible rfl
             rotate_left
             ·simp only [Act.put, q14a, q14b, q14c, i64_w, i32_w]
              rfl
             refine take_ (i := 13) (N := some 117) (v := ?_) (a' := ?_) #[true, true, true, true, true, true, true, true, true, true, true, true, true, true, false, false, false, false, false, false, false, false, false, false, false, false, false, false, false, false, false, false, false, false, false, false, false, false, false, false, false, false, false, false, false, false, false, false, false, false, false, false, false, false, false, false] rfl rfl (take_ofW HT_.out HW_.out (by kernel_rfl)) (fun _ _ _ h => h) (Or.inl ⟨by rfl, ?_⟩) hHeld ?_ ?_
             rotate_left
             ·rintro w' ⟨s0, s1, s2, s3⟩
              go_simp
              with_reducible rfl
             rotate_left
             ·simp only [Act.put, q14a, q14b, q14c, i64_w, i32_w]
              rfl
             refine take_ (i := 15) (N := some 119) (v := ?_) (a' := ?_) #[true, true, true, true, true, true, true, true, true, true, true, true, true, true, false, true, false, false, false, false, false, false, false, false, false, false, false, false, false, false, false, false, false, false, false, false, false, false, false, false, false, false, false, false, false, false, false, false, false, false, false, false, false, false, false, false] rfl rfl (take_ofW HT_.out HW_.out (by kernel_rfl)) (fun _ _ _ h => h) (Or.inl ⟨by rfl, ?_⟩) hHeld ?_ ?_
             rotate_left
             ·rintro w' ⟨s0, s1, s2, s3⟩
              go_simp
              with_reducible rfl
             rotate_left
             ·simp only [Act.put, q14a, q14b, q14c, i64_w, i32_w]
              rfl
             refine one_ (i := 14) (N := some 118) #[true, true, true, true, true, true, true, true, true, true, true, true, true, true, true, true, false, false, false, false, false, false, false, false, false, false, false, false, false, false, false, false, false, false, false, false, false, false, false, false, false, false, false, false, false, false, false, false, false, false, false, false, false, false, false, false] rfl rfl (one_of HT_.out (by kernel_rfl)) (by decide) (fun K hK => ?_)
             refine goes_ Tryd.func20 (by kernel_rfl) rfl #[.agg #[.int .i64 a0_0, .int .i64 a0_1]] (by rfl) rfl rfl (by (try simp only [List.map_toArray, List.map_cons, List.map_nil]); first | done | rfl | (simp only [List.length_drop, List.length_take]; rfl)) ?_
             with_reducible refine (prefix_Sane.calls a0_0 a0_1 t333 _ A173.out).mono ?_
             rintro e w190 ⟨rfl, hb⟩
             refine ⟨_, rfl, ?_⟩
             have n0_ := Aside0.mk (blk_below (g := gb297) (o := .cells #[.int .i64 a0_0, .int .i64 a0_1] 23 (0, 0)) (by (with_reducible repeat (first | refine blk_drewN ?_ _ | refine blk_drew ?_ | refine blk_alloc ?_ _)); exact BK297.out) hb)
             have n1_ := Aside0.mk (blk_below (g := gb298) (o := .cells #[.int .i64 a1_0, .int .i64 a1_1] 23 (0, 0)) (by (with_reducible repeat (first | refine blk_drewN ?_ _ | refine blk_drew ?_ | refine blk_alloc ?_ _)); exact BK298.out) hb)
             have n2_ := Aside0.mk (blk_below (g := gb306) (o := .cells #[.int .i64 t300, .int .i64 t301] 23 (0, 0)) (by (with_reducible repeat (first | refine blk_drewN ?_ _ | refine blk_drew ?_ | refine blk_alloc ?_ _)); exact BK306.out) hb)
             have n3_ := Aside0.mk (blk_below (g := gb313) (o := .cells #[.int .i64 t307, .int .i64 t308] 23 (0, 0)) (by (with_reducible repeat (first | refine blk_drewN ?_ _ | refine blk_drew ?_ | refine blk_alloc ?_ _)); exact BK313.out) hb)
             have n4_ := Aside0.mk (blk_below (g := gb325) (o := .cells #[.int .i64 t322, .int .i64 t323] 23 (0, 0)) (by (with_reducible repeat (first | refine blk_drewN ?_ _ | refine blk_drew ?_ | refine blk_alloc ?_ _)); exact BK325.out) hb)
             have n5_ := Aside0.mk (blk_below (g := gb329) (o := .cells #[.int .i64 t326, .int .i64 t327] 23 (0, 0)) (by (with_reducible repeat (first | refine blk_drewN ?_ _ | refine blk_drew ?_ | refine blk_alloc ?_ _)); exact BK329.out) hb)
             have n6_ := Aside0.mk (below_step (by repeat (first | (with_reducible first | exact HB.out | apply below_alloc | apply pw_below_drewN | apply below_drew1 | refine below_set ?_ GE297.out | refine below_set ?_ GE298.out | refine below_set ?_ GE306.out | refine below_set ?_ GE313.out | refine below_set ?_ GE325.out | refine below_set ?_ GE329.out) | exact HB.out)) hb)
             clear BK297
             clear BK298
             clear BK306
             clear BK313
             clear BK325
             clear BK329
             clear HB
             have BK297 := n0_
             have BK298 := n1_
             have BK306 := n2_
             have BK313 := n3_
             have BK325 := n4_
             have BK329 := n5_
             have HB := n6_
             clear n0_ n1_ n2_ n3_ n4_ n5_ n6_
             (try clear hb)
             (try clear hb2)
             (try clear hk)
             (try clear hi)
             refine hK.out _ _ ⟨(blk_cell BK297.out 0).trans rfl, (blk_cell BK297.out 1).trans rfl, (blk_cell BK298.out 0).trans rfl, (blk_cell BK298.out 1).trans rfl⟩ (fun hHeld => ?_)
             clear hK K
             refine norm_ (a' := ?_) ?_ ?_
             rotate_left
             ·show Act.put _ (some 118) _ = _
              simp only [Act.put, q14a, q14b, q14c, i64_w, i32_w]
              rfl
             refine one_ (i := 16) (N := some 120) #[true, true, true, true, true, true, true, true, true, true, true, true, true, true, true, true, true, false, false, false, false, false, false, false, false, false, false, false, false, false, false, false, false, false, false, false, false, false, false, false, false, false, false, false, false, false, false, false, false, false, false, false, false, false, false, false] rfl rfl (one_of HT_.out (by kernel_rfl)) (by decide) (fun K hK => ?_)
             refine goes_ Tryd.func21 (by kernel_rfl) rfl #[.agg #[.int .i64 a0_0, .int .i64 a0_1]] (by rfl) rfl rfl (by (try simp only [List.map_toArray, List.map_cons, List.map_nil]); first | done | rfl | (simp only [List.length_drop, List.length_take]; rfl)) ?_
             with_reducible refine (ridgewayref02_Sane.calls kj18 a0_0 a0_1 t334 _ A174.out).mono ?_
             rintro e w191 ⟨rfl, hb⟩
             refine ⟨_, rfl, ?_⟩
             have n0_ := Aside0.mk (blk_below (g := gb297) (o := .cells #[.int .i64 a0_0, .int .i64 a0_1] 23 (0, 0)) (by (with_reducible repeat (first | refine blk_drewN ?_ _ | refine blk_drew ?_ | refine blk_alloc ?_ _)); exact BK297.out) hb)
             have n1_ := Aside0.mk (blk_below (g := gb298) (o := .cells #[.int .i64 a1_0, .int .i64 a1_1] 23 (0, 0)) (by (with_reducible repeat (first | refine blk_drewN ?_ _ | refine blk_drew ?_ | refine blk_alloc ?_ _)); exact BK298.out) hb)
             have n2_ := Aside0.mk (blk_below (g := gb306) (o := .cells #[.int .i64 t300, .int .i64 t301] 23 (0, 0)) (by (with_reducible repeat (first | refine blk_drewN ?_ _ | refine blk_drew ?_ | refine blk_alloc ?_ _)); exact BK306.out) hb)
             have n3_ := Aside0.mk (blk_below (g := gb313) (o := .cells #[.int .i64 t307, .int .i64 t308] 23 (0, 0)) (by (with_reducible repeat (first | refine blk_drewN ?_ _ | refine blk_drew ?_ | refine blk_alloc ?_ _)); exact BK313.out) hb)
             have n4_ := Aside0.mk (blk_below (g := gb325) (o := .cells #[.int .i64 t322, .int .i64 t323] 23 (0, 0)) (by (with_reducible repeat (first | refine blk_drewN ?_ _ | refine blk_drew ?_ | refine blk_alloc ?_ _)); exact BK325.out) hb)
             have n5_ := Aside0.mk (blk_below (g := gb329) (o := .cells #[.int .i64 t326, .int .i64 t327] 23 (0, 0)) (by (with_reducible repeat (first | refine blk_drewN ?_ _ | refine blk_drew ?_ | refine blk_alloc ?_ _)); exact BK329.out) hb)
             have n6_ := Aside0.mk (below_step (by repeat (first | (with_reducible first | exact HB.out | apply below_alloc | apply pw_below_drewN | apply below_drew1 | refine below_set ?_ GE297.out | refine below_set ?_ GE298.out | refine below_set ?_ GE306.out | refine below_set ?_ GE313.out | refine below_set ?_ GE325.out | refine below_set ?_ GE329.out) | exact HB.out)) hb)
             clear BK297
             clear BK298
             clear BK306
             clear BK313
             clear BK325
             clear BK329
             clear HB
             have BK297 := n0_
             have BK298 := n1_
             have BK306 := n2_
             have BK313 := n3_
             have BK325 := n4_
             have BK329 := n5_
             have HB := n6_
             clear n0_ n1_ n2_ n3_ n4_ n5_ n6_
             (try clear hb)
             (try clear hb2)
             (try clear hk)
             (try clear hi)
             refine hK.out _ _ ⟨(blk_cell BK297.out 0).trans rfl, (blk_cell BK297.out 1).trans rfl, (blk_cell BK298.out 0).trans rfl, (blk_cell BK298.out 1).trans rfl⟩ (fun hHeld => ?_)
             clear hK K
             refine norm_ (a' := ?_) ?_ ?_
             rotate_left
             ·show Act.put _ (some 120) _ = _
              simp only [Act.put, q14a, q14b, q14c, i64_w, i32_w]
              rfl
             refine pure_ (i := 17) (N := some 121) (v := ?_) (a' := ?_) #[true, true, true, true, true, true, true, true, true, true, true, true, true, true, true, true, true, true, false, false, false, false, false, false, false, false, false, false, false, false, false, false, false, false, false, false, false, false, false, false, false, false, false, false, false, false, false, false, false, false, false, false, false, false, false, false] rfl rfl (any_of HT_.out (by kernel_rfl)) (fun _ _ _ h => h) (Or.inl ⟨by rfl, ?_⟩) ?_ ?_
             rotate_left
             ·intro w'
              go_simp
              with_reducible rfl
             rotate_left
             ·simp only [Act.put, q14a, q14b, q14c, i64_w, i32_w]
              rfl
             refine pure_ (i := 18) (N := some 122) (v := ?_) (a' := ?_) #[true, true, true, true, true, true, true, true, true, true, true, true, true, true, true, true, true, true, true, false, false, false, false, false, false, false, false, false, false, false, false, false, false, false, false, false, false, false, false, false, false, false, false, false, false, false, false, false, false, false, false, false, false, false, false, false] rfl rfl (any_of HT_.out (by kernel_rfl)) (fun _ _ _ h => h) (Or.inl ⟨by rfl, ?_⟩) ?_ ?_
             rotate_left
             ·intro w'
              go_simp
              with_reducible rfl
             rotate_left
             ·simp only [Act.put, q14a, q14b, q14c, i64_w, i32_w]
              rfl
             refine pure_ (i := 19) (N := some 123) (v := ?_) (a' := ?_) #[true, true, true, true, true, true, true, true, true, true, true, true, true, true, true, true, true, true, true, true, false, false, false, false, false, false, false, false, false, false, false, false, false, false, false, false, false, false, false, false, false, false, false, false, false, false, false, false, false, false, false, false, false, false, false, false] rfl rfl (any_of HT_.out (by kernel_rfl)) (fun _ _ _ h => h) (Or.inl ⟨by rfl, ?_⟩) ?_ ?_
             rotate_left
             ·intro w'
              go_simp
              with_reducible rfl
             rotate_left
             ·simp only [Act.put, q14a, q14b, q14c, i64_w, i32_w]
              rfl
             refine take_ (i := 20) (N := some 124) (v := ?_) (a' := ?_) #[true, true, true, true, true, true, true, true, true, true, true, true, true, true, true, true, true, true, true, true, true, false, false, false, false, false, false, false, false, false, false, false, false, false, false, false, false, false, false, false, false, false, false, false, false, false, false, false, false, false, false, false, false, false, false, false] rfl rfl (take_ofW HT_.out HW_.out (by kernel_rfl)) (fun _ _ _ h => h) (Or.inl ⟨by rfl, ?_⟩) hHeld ?_ ?_
             rotate_left
             ·rintro w' ⟨s0, s1, s2, s3⟩
              go_simp
              with_reducible rfl
             rotate_left
             ·simp only [Act.put, q14a, q14b, q14c, i64_w, i32_w]
              rfl
             refine take_ (i := 21) (N := some 125) (v := ?_) (a' := ?_) #[true, true, true, true, true, true, true, true, true, true, true, true, true, true, true, true, true, true, true, true, true, true, false, false, false, false, false, false, false, false, false, false, false, false, false, false, false, false, false, false, false, false, false, false, false, false, false, false, false, false, false, false, false, false, false, false] rfl rfl (take_ofW HT_.out HW_.out (by kernel_rfl)) (fun _ _ _ h => h) (Or.inl ⟨by rfl, ?_⟩) hHeld ?_ ?_
             rotate_left
             ·rintro w' ⟨s0, s1, s2, s3⟩
              go_simp
              with_reducible rfl
             rotate_left
             ·simp only [Act.put, q14a, q14b, q14c, i64_w, i32_w]
              rfl
             refine take_ (i := 23) (N := some 127) (v := ?_) (a' := ?_) #[true, true, true, true, true, true, true, true, true, true, true, true, true, true, true, true, true, true, true, true, true, true, false, true, false, false, false, false, false, false, false, false, false, false, false, false, false, false, false, false, false, false, false, false, false, false, false, false, false, false, false, false, false, false, false, false] rfl rfl (take_ofW HT_.out HW_.out (by kernel_rfl)) (fun _ _ _ h => h) (Or.inl ⟨by rfl, ?_⟩) hHeld ?_ ?_
             rotate_left
             ·rintro w' ⟨s0, s1, s2, s3⟩
              go_simp
              with_reducible rfl
             rotate_left
             ·simp only [Act.put, q14a, q14b, q14c, i64_w, i32_w]
              rfl
             refine take_ (i := 24) (N := some 128) (v := ?_) (a' := ?_) #[true, true, true, true, true, true, true, true, true, true, true, true, true, true, true, true, true, true, true, true, true, true, false, true, true, false, false, false, false, false, false, false, false, false, false, false, false, false, false, false, false, false, false, false, false, false, false, false, false, false, false, false, false, false, false, false] rfl rfl (take_ofW HT_.out HW_.out (by kernel_rfl)) (fun _ _ _ h => h) (Or.inl ⟨by rfl, ?_⟩) hHeld ?_ ?_
             rotate_left
             ·rintro w' ⟨s0, s1, s2, s3⟩
              go_simp
              with_reducible rfl
             rotate_left
             ·simp only [Act.put, q14a, q14b, q14c, i64_w, i32_w]
              rfl
             refine one_ (i := 22) (N := some 126) #[true, true, true, true, true, true, true, true, true, true, true, true, true, true, true, true, true, true, true, true, true, true, true, true, true, false, false, false, false, false, false, false, false, false, false, false, false, false, false, false, false, false, false, false, false, false, false, false, false, false, false, false, false, false, false, false] rfl rfl (one_of HT_.out (by kernel_rfl)) (by decide) (fun K hK => ?_)
             refine goes_ Tryd.func22 (by kernel_rfl) rfl #[.agg #[.int .i64 a0_0, .int .i64 a0_1], .agg #[.int .i64 a1_0, .int .i64 a1_1]] (by rfl) rfl rfl (by (try simp only [List.map_toArray, List.map_cons, List.map_nil]); first | done | rfl | (simp only [List.length_drop, List.length_take]; rfl)) ?_
             with_reducible refine (prefix_Has.calls a0_0 a0_1 a1_0 a1_1 t335 _ A176.out).mono ?_
             rintro e w192 ⟨rfl, hb⟩
             refine ⟨_, rfl, ?_⟩
             have n0_ := Aside0.mk (blk_below (g := gb297) (o := .cells #[.int .i64 a0_0, .int .i64 a0_1] 23 (0, 0)) (by (with_reducible repeat (first | refine blk_drewN ?_ _ | refine blk_drew ?_ | refine blk_alloc ?_ _)); exact BK297.out) hb)
             have n1_ := Aside0.mk (blk_below (g := gb298) (o := .cells #[.int .i64 a1_0, .int .i64 a1_1] 23 (0, 0)) (by (with_reducible repeat (first | refine blk_drewN ?_ _ | refine blk_drew ?_ | refine blk_alloc ?_ _)); exact BK298.out) hb)
             have n2_ := Aside0.mk (blk_below (g := gb306) (o := .cells #[.int .i64 t300, .int .i64 t301] 23 (0, 0)) (by (with_reducible repeat (first | refine blk_drewN ?_ _ | refine blk_drew ?_ | refine blk_alloc ?_ _)); exact BK306.out) hb)
             have n3_ := Aside0.mk (blk_below (g := gb313) (o := .cells #[.int .i64 t307, .int .i64 t308] 23 (0, 0)) (by (with_reducible repeat (first | refine blk_drewN ?_ _ | refine blk_drew ?_ | refine blk_alloc ?_ _)); exact BK313.out) hb)
             have n4_ := Aside0.mk (blk_below (g := gb325) (o := .cells #[.int .i64 t322, .int .i64 t323] 23 (0, 0)) (by (with_reducible repeat (first | refine blk_drewN ?_ _ | refine blk_drew ?_ | refine blk_alloc ?_ _)); exact BK325.out) hb)
             have n5_ := Aside0.mk (blk_below (g := gb329) (o := .cells #[.int .i64 t326, .int .i64 t327] 23 (0, 0)) (by (with_reducible repeat (first | refine blk_drewN ?_ _ | refine blk_drew ?_ | refine blk_alloc ?_ _)); exact BK329.out) hb)
             have n6_ := Aside0.mk (below_step (by repeat (first | (with_reducible first | exact HB.out | apply below_alloc | apply pw_below_drewN | apply below_drew1 | refine below_set ?_ GE297.out | refine below_set ?_ GE298.out | refine below_set ?_ GE306.out | refine below_set ?_ GE313.out | refine below_set ?_ GE325.out | refine below_set ?_ GE329.out) | exact HB.out)) hb)
             clear BK297
             clear BK298
             clear BK306
             clear BK313
             clear BK325
             clear BK329
             clear HB
             have BK297 := n0_
             have BK298 := n1_
             have BK306 := n2_
             have BK313 := n3_
             have BK325 := n4_
             have BK329 := n5_
             have HB := n6_
             clear n0_ n1_ n2_ n3_ n4_ n5_ n6_
             (try clear hb)
             (try clear hb2)
             (try clear hk)
             (try clear hi)
             refine hK.out _ _ ⟨(blk_cell BK297.out 0).trans rfl, (blk_cell BK297.out 1).trans rfl, (blk_cell BK298.out 0).trans rfl, (blk_cell BK298.out 1).trans rfl⟩ (fun hHeld => ?_)
             clear hK K
             refine norm_ (a' := ?_) ?_ ?_
             rotate_left
             ·show Act.put _ (some 126) _ = _
              simp only [Act.put, q14a, q14b, q14c, i64_w, i32_w]
              rfl
             refine one_ (i := 25) (N := some 129) #[true, true, true, true, true, true, true, true, true, true, true, true, true, true, true, true, true, true, true, true, true, true, true, true, true, true, false, false, false, false, false, false, false, false, false, false, false, false, false, false, false, false, false, false, false, false, false, false, false, false, false, false, false, false, false, false] rfl rfl (one_of HT_.out (by kernel_rfl)) (by decide) (fun K hK => ?_)
             refine goes_ Tryd.func23 (by kernel_rfl) rfl #[.agg #[.int .i64 a0_0, .int .i64 a0_1], .agg #[.int .i64 a1_0, .int .i64 a1_1]] (by rfl) rfl rfl (by (try simp only [List.map_toArray, List.map_cons, List.map_nil]); first | done | rfl | (simp only [List.length_drop, List.length_take]; rfl)) ?_
             with_reducible refine (ridgewayref02_Has.calls kj18 a0_0 a0_1 a1_0 a1_1 t336 _ A177.out).mono ?_
             rintro e w193 ⟨rfl, hb⟩
             refine ⟨_, rfl, ?_⟩
             have n0_ := Aside0.mk (blk_below (g := gb297) (o := .cells #[.int .i64 a0_0, .int .i64 a0_1] 23 (0, 0)) (by (with_reducible repeat (first | refine blk_drewN ?_ _ | refine blk_drew ?_ | refine blk_alloc ?_ _)); exact BK297.out) hb)
             have n1_ := Aside0.mk (blk_below (g := gb298) (o := .cells #[.int .i64 a1_0, .int .i64 a1_1] 23 (0, 0)) (by (with_reducible repeat (first | refine blk_drewN ?_ _ | refine blk_drew ?_ | refine blk_alloc ?_ _)); exact BK298.out) hb)
             have n2_ := Aside0.mk (blk_below (g := gb306) (o := .cells #[.int .i64 t300, .int .i64 t301] 23 (0, 0)) (by (with_reducible repeat (first | refine blk_drewN ?_ _ | refine blk_drew ?_ | refine blk_alloc ?_ _)); exact BK306.out) hb)
             have n3_ := Aside0.mk (blk_below (g := gb313) (o := .cells #[.int .i64 t307, .int .i64 t308] 23 (0, 0)) (by (with_reducible repeat (first | refine blk_drewN ?_ _ | refine blk_drew ?_ | refine blk_alloc ?_ _)); exact BK313.out) hb)
             have n4_ := Aside0.mk (blk_below (g := gb325) (o := .cells #[.int .i64 t322, .int .i64 t323] 23 (0, 0)) (by (with_reducible repeat (first | refine blk_drewN ?_ _ | refine blk_drew ?_ | refine blk_alloc ?_ _)); exact BK325.out) hb)
             have n5_ := Aside0.mk (blk_below (g := gb329) (o := .cells #[.int .i64 t326, .int .i64 t327] 23 (0, 0)) (by (with_reducible repeat (first | refine blk_drewN ?_ _ | refine blk_drew ?_ | refine blk_alloc ?_ _)); exact BK329.out) hb)
             have n6_ := Aside0.mk (below_step (by repeat (first | (with_reducible first | exact HB.out | apply below_alloc | apply pw_below_drewN | apply below_drew1 | refine below_set ?_ GE297.out | refine below_set ?_ GE298.out | refine below_set ?_ GE306.out | refine below_set ?_ GE313.out | refine below_set ?_ GE325.out | refine below_set ?_ GE329.out) | exact HB.out)) hb)
             clear BK297
             clear BK298
             clear BK306
             clear BK313
             clear BK325
             clear BK329
             clear HB
             have BK297 := n0_
             have BK298 := n1_
             have BK306 := n2_
             have BK313 := n3_
             have BK325 := n4_
             have BK329 := n5_
             have HB := n6_
             clear n0_ n1_ n2_ n3_ n4_ n5_ n6_
             (try clear hb)
             (try clear hb2)
             (try clear hk)
             (try clear hi)
             refine hK.out _ _ ⟨(blk_cell BK297.out 0).trans rfl, (blk_cell BK297.out 1).trans rfl, (blk_cell BK298.out 0).trans rfl, (blk_cell BK298.out 1).trans rfl⟩ (fun hHeld => ?_)
             clear hK K
             refine norm_ (a' := ?_) ?_ ?_
             rotate_left
             ·show Act.put _ (some 129) _ = _
              simp only [Act.put, q14a, q14b, q14c, i64_w, i32_w]
              rfl
             refine pure_ (i := 26) (N := some 130) (v := ?_) (a' := ?_) #[true, true, true, true, true, true, true, true, true, true, true, true, true, true, true, true, true, true, true, true, true, true, true, true, true, true, true, false, false, false, false, false, false, false, false, false, false, false, false, false, false, false, false, false, false, false, false, false, false, false, false, false, false, false, false, false] rfl rfl (any_of HT_.out (by kernel_rfl)) (fun _ _ _ h => h) (Or.inl ⟨by rfl, ?_⟩) ?_ ?_
             rotate_left
             ·intro w'
              go_simp
              with_reducible rfl
             rotate_left
             ·simp only [Act.put, q14a, q14b, q14c, i64_w, i32_w]
              rfl
             refine pure_ (i := 27) (N := some 131) (v := ?_) (a' := ?_) #[true, true, true, true, true, true, true, true, true, true, true, true, true, true, true, true, true, true, true, true, true, true, true, true, true, true, true, true, false, false, false, false, false, false, false, false, false, false, false, false, false, false, false, false, false, false, false, false, false, false, false, false, false, false, false, false] rfl rfl (any_of HT_.out (by kernel_rfl)) (fun _ _ _ h => h) (Or.inl ⟨by rfl, ?_⟩) ?_ ?_
             rotate_left
             ·intro w'
              go_simp
              with_reducible rfl
             rotate_left
             ·simp only [Act.put, q14a, q14b, q14c, i64_w, i32_w]
              rfl
             refine pure_ (i := 28) (N := some 132) (v := ?_) (a' := ?_) #[true, true, true, true, true, true, true, true, true, true, true, true, true, true, true, true, true, true, true, true, true, true, true, true, true, true, true, true, true, false, false, false, false, false, false, false, false, false, false, false, false, false, false, false, false, false, false, false, false, false, false, false, false, false, false, false] rfl rfl (any_of HT_.out (by kernel_rfl)) (fun _ _ _ h => h) (Or.inl ⟨by rfl, ?_⟩) ?_ ?_
             rotate_left
             ·intro w'
              go_simp
              with_reducible rfl
             rotate_left
             ·simp only [Act.put, q14a, q14b, q14c, i64_w, i32_w]
              rfl
             refine take_ (i := 29) (N := some 133) (v := ?_) (a' := ?_) #[true, true, true, true, true, true, true, true, true, true, true, true, true, true, true, true, true, true, true, true, true, true, true, true, true, true, true, true, true, true, false, false, false, false, false, false, false, false, false, false, false, false, false, false, false, false, false, false, false, false, false, false, false, false, false, false] rfl rfl (take_ofW HT_.out HW_.out (by kernel_rfl)) (fun _ _ _ h => h) (Or.inl ⟨by rfl, ?_⟩) hHeld ?_ ?_
             rotate_left
             ·rintro w' ⟨s0, s1, s2, s3⟩
              go_simp
              with_reducible rfl
             rotate_left
             ·simp only [Act.put, q14a, q14b, q14c, i64_w, i32_w]
              rfl
             refine take_ (i := 30) (N := some 134) (v := ?_) (a' := ?_) #[true, true, true, true, true, true, true, true, true, true, true, true, true, true, true, true, true, true, true, true, true, true, true, true, true, true, true, true, true, true, true, false, false, false, false, false, false, false, false, false, false, false, false, false, false, false, false, false, false, false, false, false, false, false, false, false] rfl rfl (take_ofW HT_.out HW_.out (by kernel_rfl)) (fun _ _ _ h => h) (Or.inl ⟨by rfl, ?_⟩) hHeld ?_ ?_
             rotate_left
             ·rintro w' ⟨s0, s1, s2, s3⟩
              go_simp
              with_reducible rfl
             rotate_left
             ·simp only [Act.put, q14a, q14b, q14c, i64_w, i32_w]
              rfl
             refine take_ (i := 32) (N := some 136) (v := ?_) (a' := ?_) #[true, true, true, true, true, true, true, true, true, true, true, true, true, true, true, true, true, true, true, true, true, true, true, true, true, true, true, true, true, true, true, false, true, false, false, false, false, false, false, false, false, false, false, false, false, false, false, false, false, false, false, false, false, false, false, false] rfl rfl (take_ofW HT_.out HW_.out (by kernel_rfl)) (fun _ _ _ h => h) (Or.inl ⟨by rfl, ?_⟩) hHeld ?_ ?_
             rotate_left
             ·rintro w' ⟨s0, s1, s2, s3⟩
              go_simp
              with_reducible rfl
             rotate_left
             ·simp only [Act.put, q14a, q14b, q14c, i64_w, i32_w]
              rfl
             refine take_ (i := 33) (N := some 137) (v := ?_) (a' := ?_) #[true, true, true, true, true, true, true, true, true, true, true, true, true, true, true, true, true, true, true, true, true, true, true, true, true, true, true, true, true, true, true, false, true, true, false, false, false, false, false, false, false, false, false, false, false, false, false, false, false, false, false, false, false, false, false, false] rfl rfl (take_ofW HT_.out HW_.out (by kernel_rfl)) (fun _ _ _ h => h) (Or.inl ⟨by rfl, ?_⟩) hHeld ?_ ?_
             rotate_left
             ·rintro w' ⟨s0, s1, s2, s3⟩
              go_simp
              with_reducible rfl
             rotate_left
             ·simp only [Act.put, q14a, q14b, q14c, i64_w, i32_w]
              rfl
             refine one_ (i := 31) (N := some 135) #[true, true, true, true, true, true, true, true, true, true, true, true, true, true, true, true, true, true, true, true, true, true, true, true, true, true, true, true, true, true, true, true, true, true, false, false, false, false, false, false, false, false, false, false, false, false, false, false, false, false, false, false, false, false, false, false] rfl rfl (one_of HT_.out (by kernel_rfl)) (by decide) (fun K hK => ?_)
             refine goes_ Tryd.func24 (by kernel_rfl) rfl #[.agg #[.int .i64 a0_0, .int .i64 a0_1], .agg #[.int .i64 a1_0, .int .i64 a1_1]] (by rfl) rfl rfl (by (try simp only [List.map_toArray, List.map_cons, List.map_nil]); first | done | rfl | (simp only [List.length_drop, List.length_take]; rfl)) ?_
             with_reducible refine (prefix_Compare.calls kj18 a0_0 a0_1 a1_0 a1_1 t337 _ A179.out).mono ?_
             rintro e w194 ⟨rfl, hb⟩
             refine ⟨_, rfl, ?_⟩
             have n0_ := Aside0.mk (blk_below (g := gb297) (o := .cells #[.int .i64 a0_0, .int .i64 a0_1] 23 (0, 0)) (by (with_reducible repeat (first | refine blk_drewN ?_ _ | refine blk_drew ?_ | refine blk_alloc ?_ _)); exact BK297.out) hb)
             have n1_ := Aside0.mk (blk_below (g := gb298) (o := .cells #[.int .i64 a1_0, .int .i64 a1_1] 23 (0, 0)) (by (with_reducible repeat (first | refine blk_drewN ?_ _ | refine blk_drew ?_ | refine blk_alloc ?_ _)); exact BK298.out) hb)
             have n2_ := Aside0.mk (blk_below (g := gb306) (o := .cells #[.int .i64 t300, .int .i64 t301] 23 (0, 0)) (by (with_reducible repeat (first | refine blk_drewN ?_ _ | refine blk_drew ?_ | refine blk_alloc ?_ _)); exact BK306.out) hb)
             have n3_ := Aside0.mk (blk_below (g := gb313) (o := .cells #[.int .i64 t307, .int .i64 t308] 23 (0, 0)) (by (with_reducible repeat (first | refine blk_drewN ?_ _ | refine blk_drew ?_ | refine blk_alloc ?_ _)); exact BK313.out) hb)
             have n4_ := Aside0.mk (blk_below (g := gb325) (o := .cells #[.int .i64 t322, .int .i64 t323] 23 (0, 0)) (by (with_reducible repeat (first | refine blk_drewN ?_ _ | refine blk_drew ?_ | refine blk_alloc ?_ _)); exact BK325.out) hb)
             have n5_ := Aside0.mk (blk_below (g := gb329) (o := .cells #[.int .i64 t326, .int .i64 t327] 23 (0, 0)) (by (with_reducible repeat (first | refine blk_drewN ?_ _ | refine blk_drew ?_ | refine blk_alloc ?_ _)); exact BK329.out) hb)
             have n6_ := Aside0.mk (below_step (by repeat (first | (with_reducible first | exact HB.out | apply below_alloc | apply pw_below_drewN | apply below_drew1 | refine below_set ?_ GE297.out | refine below_set ?_ GE298.out | refine below_set ?_ GE306.out | refine below_set ?_ GE313.out | refine below_set ?_ GE325.out | refine below_set ?_ GE329.out) | exact HB.out)) hb)
             clear BK297
             clear BK298
             clear BK306
             clear BK313
             clear BK325
             clear BK329
             clear HB
             have BK297 := n0_
             have BK298 := n1_
             have BK306 := n2_
             have BK313 := n3_
             have BK325 := n4_
             have BK329 := n5_
             have HB := n6_
             clear n0_ n1_ n2_ n3_ n4_ n5_ n6_
             (try clear hb)
             (try clear hb2)
             (try clear hk)
             (try clear hi)
             refine hK.out _ _ ⟨(blk_cell BK297.out 0).trans rfl, (blk_cell BK297.out 1).trans rfl, (blk_cell BK298.out 0).trans rfl, (blk_cell BK298.out 1).trans rfl⟩ (fun hHeld => ?_)
             clear hK K
             refine norm_ (a' := ?_) ?_ ?_
             rotate_left
             ·show Act.put _ (some 135) _ = _
              simp only [Act.put, q14a, q14b, q14c, i64_w, i32_w]
              rfl
             refine one_ (i := 34) (N := some 138) #[true, true, true, true, true, true, true, true, true, true, true, true, true, true, true, true, true, true, true, true, true, true, true, true, true, true, true, true, true, true, true, true, true, true, true, false, false, false, false, false, false, false, false, false, false, false, false, false, false, false, false, false, false, false, false, false] rfl rfl (one_of HT_.out (by kernel_rfl)) (by decide) (fun K hK => ?_)
             refine goes_ Tryd.func25 (by kernel_rfl) rfl #[.agg #[.int .i64 a0_0, .int .i64 a0_1], .agg #[.int .i64 a1_0, .int .i64 a1_1]] (by rfl) rfl rfl (by (try simp only [List.map_toArray, List.map_cons, List.map_nil]); first | done | rfl | (simp only [List.length_drop, List.length_take]; rfl)) ?_
             with_reducible refine (ridgewayref02_Compare.calls kj18 a0_0 a0_1 a1_0 a1_1 t338 _ A180.out).mono ?_
             rintro e w195 ⟨rfl, hb⟩
             refine ⟨_, rfl, ?_⟩
             have n0_ := Aside0.mk (blk_below (g := gb297) (o := .cells #[.int .i64 a0_0, .int .i64 a0_1] 23 (0, 0)) (by (with_reducible repeat (first | refine blk_drewN ?_ _ | refine blk_drew ?_ | refine blk_alloc ?_ _)); exact BK297.out) hb)
             have n1_ := Aside0.mk (blk_below (g := gb298) (o := .cells #[.int .i64 a1_0, .int .i64 a1_1] 23 (0, 0)) (by (with_reducible repeat (first | refine blk_drewN ?_ _ | refine blk_drew ?_ | refine blk_alloc ?_ _)); exact BK298.out) hb)
             have n2_ := Aside0.mk (blk_below (g := gb306) (o := .cells #[.int .i64 t300, .int .i64 t301] 23 (0, 0)) (by (with_reducible repeat (first | refine blk_drewN ?_ _ | refine blk_drew ?_ | refine blk_alloc ?_ _)); exact BK306.out) hb)
             have n3_ := Aside0.mk (blk_below (g := gb313) (o := .cells #[.int .i64 t307, .int .i64 t308] 23 (0, 0)) (by (with_reducible repeat (first | refine blk_drewN ?_ _ | refine blk_drew ?_ | refine blk_alloc ?_ _)); exact BK313.out) hb)
             have n4_ := Aside0.mk (blk_below (g := gb325) (o := .cells #[.int .i64 t322, .int .i64 t323] 23 (0, 0)) (by (with_reducible repeat (first | refine blk_drewN ?_ _ | refine blk_drew ?_ | refine blk_alloc ?_ _)); exact BK325.out) hb)
             have n5_ := Aside0.mk (blk_below (g := gb329) (o := .cells #[.int .i64 t326, .int .i64 t327] 23 (0, 0)) (by (with_reducible repeat (first | refine blk_drewN ?_ _ | refine blk_drew ?_ | refine blk_alloc ?_ _)); exact BK329.out) hb)
             have n6_ := Aside0.mk (below_step (by repeat (first | (with_reducible first | exact HB.out | apply below_alloc | apply pw_below_drewN | apply below_drew1 | refine below_set ?_ GE297.out | refine below_set ?_ GE298.out | refine below_set ?_ GE306.out | refine below_set ?_ GE313.out | refine below_set ?_ GE325.out | refine below_set ?_ GE329.out) | exact HB.out)) hb)
             clear BK297
             clear BK298
             clear BK306
             clear BK313
             clear BK325
             clear BK329
             clear HB
             have BK297 := n0_
             have BK298 := n1_
             have BK306 := n2_
             have BK313 := n3_
             have BK325 := n4_
             have BK329 := n5_
             have HB := n6_
             clear n0_ n1_ n2_ n3_ n4_ n5_ n6_
             (try clear hb)
             (try clear hb2)
             (try clear hk)
             (try clear hi)
             refine hK.out _ _ ⟨(blk_cell BK297.out 0).trans rfl, (blk_cell BK297.out 1).trans rfl, (blk_cell BK298.out 0).trans rfl, (blk_cell BK298.out 1).trans rfl⟩ (fun hHeld => ?_)
             clear hK K
             refine norm_ (a' := ?_) ?_ ?_
             rotate_left
             ·show Act.put _ (some 138) _ = _
              simp only [Act.put, q14a, q14b, q14c, i64_w, i32_w]
              rfl
             refine pure_ (i := 35) (N := some 139) (v := ?_) (a' := ?_) #[true, true, true, true, true, true, true, true, true, true, true, true, true, true, true, true, true, true, true, true, true, true, true, true, true, true, true, true, true, true, true, true, true, true, true, true, false, false, false, false, false, false, false, false, false, false, false, false, false, false, false, false, false, false, false, false] rfl rfl (any_of HT_.out (by kernel_rfl)) (fun _ _ _ h => h) (Or.inl ⟨by rfl, ?_⟩) ?_ ?_
             rotate_left
             ·intro w'
              go_simp
              with_reducible rfl
             rotate_left
             ·simp only [Act.put, q14a, q14b, q14c, i64_w, i32_w]
              rfl
             refine pure_ (i := 36) (N := some 140) (v := ?_) (a' := ?_) #[true, true, true, true, true, true, true, true, true, true, true, true, true, true, true, true, true, true, true, true, true, true, true, true, true, true, true, true, true, true, true, true, true, true, true, true, true, false, false, false, false, false, false, false, false, false, false, false, false, false, false, false, false, false, false, false] rfl rfl (any_of HT_.out (by kernel_rfl)) (fun _ _ _ h => h) (Or.inl ⟨by rfl, ?_⟩) ?_ ?_
             rotate_left
             ·intro w'
              go_simp
              with_reducible rfl
             rotate_left
             ·simp only [Act.put, q14a, q14b, q14c, i64_w, i32_w]
              rfl
             refine pure_ (i := 37) (N := some 141) (v := ?_) (a' := ?_) #[true, true, true, true, true, true, true, true, true, true, true, true, true, true, true, true, true, true, true, true, true, true, true, true, true, true, true, true, true, true, true, true, true, true, true, true, true, true, false, false, false, false, false, false, false, false, false, false, false, false, false, false, false, false, false, false] rfl rfl (any_of HT_.out (by kernel_rfl)) (fun _ _ _ h => h) (Or.inl ⟨by rfl, ?_⟩) ?_ ?_
             rotate_left
             ·intro w'
              go_simp
              with_reducible rfl
             rotate_left
             ·simp only [Act.put, q14a, q14b, q14c, i64_w, i32_w]
              rfl
             refine pure_ (i := 38) (N := some 142) (v := ?_) (a' := ?_) #[true, true, true, true, true, true, true, true, true, true, true, true, true, true, true, true, true, true, true, true, true, true, true, true, true, true, true, true, true, true, true, true, true, true, true, true, true, true, true, false, false, false, false, false, false, false, false, false, false, false, false, false, false, false, false, false] rfl rfl (any_of HT_.out (by kernel_rfl)) (fun _ _ _ h => h) (Or.inl ⟨by rfl, ?_⟩) ?_ ?_
             rotate_left
             ·intro w'
              go_simp
              with_reducible rfl
             rotate_left
             ·simp only [Act.put, q14a, q14b, q14c, i64_w, i32_w]
              rfl
             refine pure_ (i := 42) (N := some 146) (v := ?_) (a' := ?_) #[true, true, true, true, true, true, true, true, true, true, true, true, true, true, true, true, true, true, true, true, true, true, true, true, true, true, true, true, true, true, true, true, true, true, true, true, true, true, true, false, false, false, true, false, false, false, false, false, false, false, false, false, false, false, false, false] rfl rfl (any_of HT_.out (by kernel_rfl)) (fun _ _ _ h => h) (Or.inl ⟨by rfl, ?_⟩) ?_ ?_
             rotate_left
             ·intro w'
              go_simp
              with_reducible rfl
             rotate_left
             ·simp only [Act.put, q14a, q14b, q14c, i64_w, i32_w]
              rfl
             refine take_ (i := 39) (N := some 143) (v := ?_) (a' := ?_) #[true, true, true, true, true, true, true, true, true, true, true, true, true, true, true, true, true, true, true, true, true, true, true, true, true, true, true, true, true, true, true, true, true, true, true, true, true, true, true, true, false, false, true, false, false, false, false, false, false, false, false, false, false, false, false, false] rfl rfl (take_ofW HT_.out HW_.out (by kernel_rfl)) (fun _ _ _ h => h) (Or.inl ⟨by rfl, ?_⟩) hHeld ?_ ?_
             rotate_left
             ·rintro w' ⟨s0, s1, s2, s3⟩
              go_simp
              with_reducible rfl
             rotate_left
             ·simp only [Act.put, q14a, q14b, q14c, i64_w, i32_w]
              rfl
             refine take_ (i := 43) (N := some 147) (v := ?_) (a' := ?_) #[true, true, true, true, true, true, true, true, true, true, true, true, true, true, true, true, true, true, true, true, true, true, true, true, true, true, true, true, true, true, true, true, true, true, true, true, true, true, true, true, false, false, true, true, false, false, false, false, false, false, false, false, false, false, false, false] rfl rfl (take_ofW HT_.out HW_.out (by kernel_rfl)) (fun _ _ _ h => h) (Or.inl ⟨by rfl, ?_⟩) hHeld ?_ ?_
             rotate_left
             ·rintro w' ⟨s0, s1, s2, s3⟩
              go_simp
              with_reducible rfl
             rotate_left
             ·simp only [Act.put, q14a, q14b, q14c, i64_w, i32_w]
              rfl
             refine one_ (i := 40) (N := some 144) #[true, true, true, true, true, true, true, true, true, true, true, true, true, true, true, true, true, true, true, true, true, true, true, true, true, true, true, true, true, true, true, true, true, true, true, true, true, true, true, true, true, false, true, true, false, false, false, false, false, false, false, false, false, false, false, false] rfl rfl (one_of HT_.out (by kernel_rfl)) (by decide) (fun K hK => ?_)
             refine goes_ Tryd.func26 (by kernel_rfl) rfl #[.slice A3 l3.length c3, .agg #[.int .i64 a0_0, .int .i64 a0_1]] (by rfl) rfl rfl (by (try simp only [List.map_toArray, List.map_cons, List.map_nil]); first | done | rfl | (simp only [List.length_drop, List.length_take]; rfl)) ?_
             with_reducible refine (prefix_Put.calls kj18 _ _ l3 a0_0 a0_1 t339 _ ?side1 ?side2 A182.out).mono ?_
             (case side1 => repeat (first | exact (Kd.C_below HR3.out HB.out) | (with_reducible refine Kd.C_alloc ?_ _) | (with_reducible refine Kd.C_drewN ?_ _) | (with_reducible refine Kd.C_drew ?_)))
             (case side2 => exact HC3.out)
             rintro e w196 ⟨v340, rfl, ho0, hb⟩
             refine ⟨_, rfl, ?_⟩
             have n0_ := Aside0.mk (Kd.R_lower ho0 (below_size (by repeat (first | (with_reducible first | exact HB.out | apply below_alloc | apply pw_below_drewN | apply below_drew1 | refine below_set ?_ GE297.out | refine below_set ?_ GE298.out | refine below_set ?_ GE306.out | refine below_set ?_ GE313.out | refine below_set ?_ GE325.out | refine below_set ?_ GE329.out) | exact HB.out))))
             have n1_ := Aside0.mk (blk_below (g := gb297) (o := .cells #[.int .i64 a0_0, .int .i64 a0_1] 23 (0, 0)) (by (with_reducible repeat (first | refine blk_drewN ?_ _ | refine blk_drew ?_ | refine blk_alloc ?_ _)); exact BK297.out) hb)
             have n2_ := Aside0.mk (blk_below (g := gb298) (o := .cells #[.int .i64 a1_0, .int .i64 a1_1] 23 (0, 0)) (by (with_reducible repeat (first | refine blk_drewN ?_ _ | refine blk_drew ?_ | refine blk_alloc ?_ _)); exact BK298.out) hb)
             have n3_ := Aside0.mk (blk_below (g := gb306) (o := .cells #[.int .i64 t300, .int .i64 t301] 23 (0, 0)) (by (with_reducible repeat (first | refine blk_drewN ?_ _ | refine blk_drew ?_ | refine blk_alloc ?_ _)); exact BK306.out) hb)
             have n4_ := Aside0.mk (blk_below (g := gb313) (o := .cells #[.int .i64 t307, .int .i64 t308] 23 (0, 0)) (by (with_reducible repeat (first | refine blk_drewN ?_ _ | refine blk_drew ?_ | refine blk_alloc ?_ _)); exact BK313.out) hb)
             have n5_ := Aside0.mk (blk_below (g := gb325) (o := .cells #[.int .i64 t322, .int .i64 t323] 23 (0, 0)) (by (with_reducible repeat (first | refine blk_drewN ?_ _ | refine blk_drew ?_ | refine blk_alloc ?_ _)); exact BK325.out) hb)
             have n6_ := Aside0.mk (blk_below (g := gb329) (o := .cells #[.int .i64 t326, .int .i64 t327] 23 (0, 0)) (by (with_reducible repeat (first | refine blk_drewN ?_ _ | refine blk_drew ?_ | refine blk_alloc ?_ _)); exact BK329.out) hb)
             have n7_ := Aside0.mk (below_step (by repeat (first | (with_reducible first | exact HB.out | apply below_alloc | apply pw_below_drewN | apply below_drew1 | refine below_set ?_ GE297.out | refine below_set ?_ GE298.out | refine below_set ?_ GE306.out | refine below_set ?_ GE313.out | refine below_set ?_ GE325.out | refine below_set ?_ GE329.out) | exact HB.out)) hb)
             clear BK297
             clear BK298
             clear BK306
             clear BK313
             clear BK325
             clear BK329
             clear HB
             have HO341 := n0_
             have BK297 := n1_
             have BK298 := n2_
             have BK306 := n3_
             have BK313 := n4_
             have BK325 := n5_
             have BK329 := n6_
             have HB := n7_
             clear n0_ n1_ n2_ n3_ n4_ n5_ n6_ n7_
             (try clear hb)
             (try clear hb2)
             (try clear hk)
             (try clear hi)
             (try clear ho0)
             refine hK.out _ _ ⟨(blk_cell BK297.out 0).trans rfl, (blk_cell BK297.out 1).trans rfl, (blk_cell BK298.out 0).trans rfl, (blk_cell BK298.out 1).trans rfl⟩ (fun hHeld => ?_)
             clear hK K
             refine norm_ (a' := ?_) ?_ ?_
             rotate_left
             ·show Act.put _ (some 144) _ = _
              simp only [Act.put, q14a, q14b, q14c, i64_w, i32_w]
              rfl
             refine join_ (σ := Value) 10 #[true, true, true, true, true, true, true, true, true, true, true, true, true, true, true, true, true, true, true, true, true, true, true, true, true, true, true, true, true, true, true, true, true, true, true, true, true, true, true, true, true, true, true, true, true, true, false, false, false, false, false, false, false, false, false, false] (fun s_ => [(145, .string (strOfNums t339)), (148, s_), (149, .string (strOfNums t342))]) (fun s_ w' => (w'.cell? ⟨gb297, 0, none⟩ = some (.int .i64 a0_0) ∧ w'.cell? ⟨gb297, 1, none⟩ = some (.int .i64 a0_1) ∧ w'.cell? ⟨gb298, 0, none⟩ = some (.int .i64 a1_0) ∧ w'.cell? ⟨gb298, 1, none⟩ = some (.int .i64 a1_1)) ∧ (Kd.R (Kd.int .u8) 5 w' w.heap.size (fun k_ => some k_ ≠ (s_ : Value).ownBlock) v340 t339) ∧ (Kd.R (Kd.int .u8) 5 w' w.heap.size (fun k_ => some k_ ≠ (v340 : Value).ownBlock) s_ t342) ∧ (w'.heap[gb297]? = some (.cells #[.int .i64 a0_0, .int .i64 a0_1] 23 (0, 0))) ∧ (w'.heap[gb298]? = some (.cells #[.int .i64 a1_0, .int .i64 a1_1] 23 (0, 0))) ∧ (w'.heap[gb306]? = some (.cells #[.int .i64 t300, .int .i64 t301] 23 (0, 0))) ∧ (w'.heap[gb313]? = some (.cells #[.int .i64 t307, .int .i64 t308] 23 (0, 0))) ∧ (w'.heap[gb325]? = some (.cells #[.int .i64 t322, .int .i64 t323] 23 (0, 0))) ∧ (w'.heap[gb329]? = some (.cells #[.int .i64 t326, .int .i64 t327] 23 (0, 0))) ∧ (Below w.heap.size w w')) ?_ ?_
             rotate_left
             ·intro hCont
              refine two_ (i := 41) (j := 44) (Ni := some 145) (Nj := some 148) #[true, true, true, true, true, true, true, true, true, true, true, true, true, true, true, true, true, true, true, true, true, true, true, true, true, true, true, true, true, true, true, true, true, true, true, true, true, true, true, true, true, true, true, true, false, false, false, false, false, false, false, false, false, false, false, false] #[true, true, true, true, true, true, true, true, true, true, true, true, true, true, true, true, true, true, true, true, true, true, true, true, true, true, true, true, true, true, true, true, true, true, true, true, true, true, true, true, true, false, true, true, true, false, false, false, false, false, false, false, false, false, false, false] rfl rfl rfl rfl (two_of HT_.out (by kernel_rfl)) (by decide) (by decide) (fun K hK => ?_) (fun K hK => ?_)
              ·skip
               have hcv197 := own_string (P := Tryd.prog) Tryd.underlying24 Tryd.underlying5 Tryd.underlying9 (Kd.own_of_R HO341.out)
               refine value_ (w1 := ?_) (v := ?_) (by rfl) rfl ?_ ?_
               rotate_left 2
               ·go_simp
                constructor
                ·rfl
                ·rfl
               clear hcv197
               refine hK.out _ _ ⟨(blk_cell BK297.out 0).trans rfl, (blk_cell BK297.out 1).trans rfl, (blk_cell BK298.out 0).trans rfl, (blk_cell BK298.out 1).trans rfl⟩ (fun hHeld => ?_)
               clear hK K
               refine norm_ (a' := ?_) ?_ ?_
               rotate_left
               ·show Act.put _ (some 145) _ = _
                simp only [Act.put, q14a, q14b, q14c, i64_w, i32_w]
                rfl
               refine one_ (i := 44) (N := some 148) #[true, true, true, true, true, true, true, true, true, true, true, true, true, true, true, true, true, true, true, true, true, true, true, true, true, true, true, true, true, true, true, true, true, true, true, true, true, true, true, true, true, true, true, true, true, false, false, false, false, false, false, false, false, false, false, false] rfl rfl (one_of HT_.out (by kernel_rfl)) (by decide) (fun K hK => ?_)
               refine goes_ Tryd.func27 (by kernel_rfl) rfl #[.slice A3 l3.length c3, .agg #[.int .i64 a0_0, .int .i64 a0_1]] (by rfl) rfl rfl (by (try simp only [List.map_toArray, List.map_cons, List.map_nil]); first | done | rfl | (simp only [List.length_drop, List.length_take]; rfl)) ?_
               with_reducible refine (ridgewayref02_Put.calls kj18 _ _ l3 a0_0 a0_1 t342 _ ?side1 ?side2 A183.out).mono ?_
               (case side1 => repeat (first | exact (Kd.C_below HR3.out HB.out) | (with_reducible refine Kd.C_alloc ?_ _) | (with_reducible refine Kd.C_drewN ?_ _) | (with_reducible refine Kd.C_drew ?_)))
               (case side2 => exact HC3.out)
               rintro e w198 ⟨v343, rfl, ho0, hb⟩
               refine ⟨_, rfl, ?_⟩
               have n0_ := Aside0.mk (Kd.R_elder' (by (with_reducible repeat (first | apply Kd.R_alloc | apply Kd.R_drewN | apply Kd.R_drew)); exact HO341.out) (Kd.R_base ho0) hb)
               have n1_ := Aside0.mk (Kd.R_lower (Kd.R_new' ho0 (Kd.R_lt (by (with_reducible repeat (first | apply Kd.R_alloc | apply Kd.R_drewN | apply Kd.R_drew)); exact HO341.out))) (below_size (by repeat (first | (with_reducible first | exact HB.out | apply below_alloc | apply pw_below_drewN | apply below_drew1 | refine below_set ?_ GE297.out | refine below_set ?_ GE298.out | refine below_set ?_ GE306.out | refine below_set ?_ GE313.out | refine below_set ?_ GE325.out | refine below_set ?_ GE329.out) | exact HB.out))))
               have n2_ := Aside0.mk (blk_below (g := gb297) (o := .cells #[.int .i64 a0_0, .int .i64 a0_1] 23 (0, 0)) (by (with_reducible repeat (first | refine blk_drewN ?_ _ | refine blk_drew ?_ | refine blk_alloc ?_ _)); exact BK297.out) hb)
               have n3_ := Aside0.mk (blk_below (g := gb298) (o := .cells #[.int .i64 a1_0, .int .i64 a1_1] 23 (0, 0)) (by (with_reducible repeat (first | refine blk_drewN ?_ _ | refine blk_drew ?_ | refine blk_alloc ?_ _)); exact BK298.out) hb)
               have n4_ := Aside0.mk (blk_below (g := gb306) (o := .cells #[.int .i64 t300, .int .i64 t301] 23 (0, 0)) (by (with_reducible repeat (first | refine blk_drewN ?_ _ | refine blk_drew ?_ | refine blk_alloc ?_ _)); exact BK306.out) hb)
               have n5_ := Aside0.mk (blk_below (g := gb313) (o := .cells #[.int .i64 t307, .int .i64 t308] 23 (0, 0)) (by (with_reducible repeat (first | refine blk_drewN ?_ _ | refine blk_drew ?_ | refine blk_alloc ?_ _)); exact BK313.out) hb)
               have n6_ := Aside0.mk (blk_below (g := gb325) (o := .cells #[.int .i64 t322, .int .i64 t323] 23 (0, 0)) (by (with_reducible repeat (first | refine blk_drewN ?_ _ | refine blk_drew ?_ | refine blk_alloc ?_ _)); exact BK325.out) hb)
               have n7_ := Aside0.mk (blk_below (g := gb329) (o := .cells #[.int .i64 t326, .int .i64 t327] 23 (0, 0)) (by (with_reducible repeat (first | refine blk_drewN ?_ _ | refine blk_drew ?_ | refine blk_alloc ?_ _)); exact BK329.out) hb)
               have n8_ := Aside0.mk (below_step (by repeat (first | (with_reducible first | exact HB.out | apply below_alloc | apply pw_below_drewN | apply below_drew1 | refine below_set ?_ GE297.out | refine below_set ?_ GE298.out | refine below_set ?_ GE306.out | refine below_set ?_ GE313.out | refine below_set ?_ GE325.out | refine below_set ?_ GE329.out) | exact HB.out)) hb)
               clear HO341
               clear BK297
               clear BK298
               clear BK306
               clear BK313
               clear BK325
               clear BK329
               clear HB
               have HO341 := n0_
               have HO344 := n1_
               have BK297 := n2_
               have BK298 := n3_
               have BK306 := n4_
               have BK313 := n5_
               have BK325 := n6_
               have BK329 := n7_
               have HB := n8_
               clear n0_ n1_ n2_ n3_ n4_ n5_ n6_ n7_ n8_
               (try clear hb)
               (try clear hb2)
               (try clear hk)
               (try clear hi)
               (try clear ho0)
               refine hK.out _ _ ⟨(blk_cell BK297.out 0).trans rfl, (blk_cell BK297.out 1).trans rfl, (blk_cell BK298.out 0).trans rfl, (blk_cell BK298.out 1).trans rfl⟩ (fun hHeld => ?_)
               clear hK K
               refine norm_ (a' := ?_) ?_ ?_
               rotate_left
               ·show Act.put _ (some 148) _ = _
                simp only [Act.put, q14a, q14b, q14c, i64_w, i32_w]
                rfl
               refine one_ (i := 45) (N := some 149) #[true, true, true, true, true, true, true, true, true, true, true, true, true, true, true, true, true, true, true, true, true, true, true, true, true, true, true, true, true, true, true, true, true, true, true, true, true, true, true, true, true, true, true, true, true, true, false, false, false, false, false, false, false, false, false, false] rfl rfl (one_of HT_.out (by kernel_rfl)) (by decide) (fun K hK => ?_)
               have hcv199 := own_string (P := Tryd.prog) Tryd.underlying24 Tryd.underlying5 Tryd.underlying9 (Kd.own_of_R HO344.out)
               refine value_ (w1 := ?_) (v := ?_) (by rfl) rfl ?_ ?_
               rotate_left 2
               ·go_simp
                constructor
                ·rfl
                ·rfl
               clear hcv199
               refine hK.out _ _ ⟨(blk_cell BK297.out 0).trans rfl, (blk_cell BK297.out 1).trans rfl, (blk_cell BK298.out 0).trans rfl, (blk_cell BK298.out 1).trans rfl⟩ (fun hHeld => ?_)
               clear hK K
               refine norm_ (a' := ?_) ?_ ?_
               rotate_left
               ·show Act.put _ (some 149) _ = _
                simp only [Act.put, q14a, q14b, q14c, i64_w, i32_w]
                rfl
               exact norm_ (by simp only [putAll, Act.put, q14a, q14b, q14c]) (hCont (v343) _ ⟨hHeld, (by (with_reducible repeat (first | apply Kd.R_alloc | apply Kd.R_drewN | apply Kd.R_drew)); exact Kd.R_mono HO341.out (fun _ hk => hk.2)), (by (with_reducible repeat (first | apply Kd.R_alloc | apply Kd.R_drewN | apply Kd.R_drew)); exact Kd.R_mono HO344.out (fun _ hk => hk.2)), (by (with_reducible repeat (first | refine blk_drewN ?_ _ | refine blk_drew ?_ | refine blk_alloc ?_ _)); exact BK297.out), (by (with_reducible repeat (first | refine blk_drewN ?_ _ | refine blk_drew ?_ | refine blk_alloc ?_ _)); exact BK298.out), (by (with_reducible repeat (first | refine blk_drewN ?_ _ | refine blk_drew ?_ | refine blk_alloc ?_ _)); exact BK306.out), (by (with_reducible repeat (first | refine blk_drewN ?_ _ | refine blk_drew ?_ | refine blk_alloc ?_ _)); exact BK313.out), (by (with_reducible repeat (first | refine blk_drewN ?_ _ | refine blk_drew ?_ | refine blk_alloc ?_ _)); exact BK325.out), (by (with_reducible repeat (first | refine blk_drewN ?_ _ | refine blk_drew ?_ | refine blk_alloc ?_ _)); exact BK329.out), (by repeat (first | (with_reducible first | exact HB.out | apply below_alloc | apply pw_below_drewN | apply below_drew1 | refine below_set ?_ GE297.out | refine below_set ?_ GE298.out | refine below_set ?_ GE306.out | refine below_set ?_ GE313.out | refine below_set ?_ GE325.out | refine below_set ?_ GE329.out) | exact HB.out))⟩)
              ·skip
               refine goes_ Tryd.func27 (by kernel_rfl) rfl #[.slice A3 l3.length c3, .agg #[.int .i64 a0_0, .int .i64 a0_1]] (by rfl) rfl rfl (by (try simp only [List.map_toArray, List.map_cons, List.map_nil]); first | done | rfl | (simp only [List.length_drop, List.length_take]; rfl)) ?_
               with_reducible refine (ridgewayref02_Put.calls kj18 _ _ l3 a0_0 a0_1 t342 _ ?side1 ?side2 A183.out).mono ?_
               (case side1 => repeat (first | exact (Kd.C_below HR3.out HB.out) | (with_reducible refine Kd.C_alloc ?_ _) | (with_reducible refine Kd.C_drewN ?_ _) | (with_reducible refine Kd.C_drew ?_)))
               (case side2 => exact HC3.out)
               rintro e w197 ⟨v343, rfl, ho0, hb⟩
               refine ⟨_, rfl, ?_⟩
               have n0_ := Aside0.mk (Kd.R_elder' (by (with_reducible repeat (first | apply Kd.R_alloc | apply Kd.R_drewN | apply Kd.R_drew)); exact HO341.out) (Kd.R_base ho0) hb)
               have n1_ := Aside0.mk (Kd.R_lower (Kd.R_new' ho0 (Kd.R_lt (by (with_reducible repeat (first | apply Kd.R_alloc | apply Kd.R_drewN | apply Kd.R_drew)); exact HO341.out))) (below_size (by repeat (first | (with_reducible first | exact HB.out | apply below_alloc | apply pw_below_drewN | apply below_drew1 | refine below_set ?_ GE297.out | refine below_set ?_ GE298.out | refine below_set ?_ GE306.out | refine below_set ?_ GE313.out | refine below_set ?_ GE325.out | refine below_set ?_ GE329.out) | exact HB.out))))
               have n2_ := Aside0.mk (blk_below (g := gb297) (o := .cells #[.int .i64 a0_0, .int .i64 a0_1] 23 (0, 0)) (by (with_reducible repeat (first | refine blk_drewN ?_ _ | refine blk_drew ?_ | refine blk_alloc ?_ _)); exact BK297.out) hb)
               have n3_ := Aside0.mk (blk_below (g := gb298) (o := .cells #[.int .i64 a1_0, .int .i64 a1_1] 23 (0, 0)) (by (with_reducible repeat (first | refine blk_drewN ?_ _ | refine blk_drew ?_ | refine blk_alloc ?_ _)); exact BK298.out) hb)
               have n4_ := Aside0.mk (blk_below (g := gb306) (o := .cells #[.int .i64 t300, .int .i64 t301] 23 (0, 0)) (by (with_reducible repeat (first | refine blk_drewN ?_ _ | refine blk_drew ?_ | refine blk_alloc ?_ _)); exact BK306.out) hb)
               have n5_ := Aside0.mk (blk_below (g := gb313) (o := .cells #[.int .i64 t307, .int .i64 t308] 23 (0, 0)) (by (with_reducible repeat (first | refine blk_drewN ?_ _ | refine blk_drew ?_ | refine blk_alloc ?_ _)); exact BK313.out) hb)
               have n6_ := Aside0.mk (blk_below (g := gb325) (o := .cells #[.int .i64 t322, .int .i64 t323] 23 (0, 0)) (by (with_reducible repeat (first | refine blk_drewN ?_ _ | refine blk_drew ?_ | refine blk_alloc ?_ _)); exact BK325.out) hb)
               have n7_ := Aside0.mk (blk_below (g := gb329) (o := .cells #[.int .i64 t326, .int .i64 t327] 23 (0, 0)) (by (with_reducible repeat (first | refine blk_drewN ?_ _ | refine blk_drew ?_ | refine blk_alloc ?_ _)); exact BK329.out) hb)
               have n8_ := Aside0.mk (below_step (by repeat (first | (with_reducible first | exact HB.out | apply below_alloc | apply pw_below_drewN | apply below_drew1 | refine below_set ?_ GE297.out | refine below_set ?_ GE298.out | refine below_set ?_ GE306.out | refine below_set ?_ GE313.out | refine below_set ?_ GE325.out | refine below_set ?_ GE329.out) | exact HB.out)) hb)
               clear HO341
               clear BK297
               clear BK298
               clear BK306
               clear BK313
               clear BK325
               clear BK329
               clear HB
               have HO341 := n0_
               have HO344 := n1_
               have BK297 := n2_
               have BK298 := n3_
               have BK306 := n4_
               have BK313 := n5_
               have BK325 := n6_
               have BK329 := n7_
               have HB := n8_
               clear n0_ n1_ n2_ n3_ n4_ n5_ n6_ n7_ n8_
               (try clear hb)
               (try clear hb2)
               (try clear hk)
               (try clear hi)
               (try clear ho0)
               refine hK.out _ _ ⟨(blk_cell BK297.out 0).trans rfl, (blk_cell BK297.out 1).trans rfl, (blk_cell BK298.out 0).trans rfl, (blk_cell BK298.out 1).trans rfl⟩ (fun hHeld => ?_)
               clear hK K
               refine norm_ (a' := ?_) ?_ ?_
               rotate_left
               ·show Act.put _ (some 148) _ = _
                simp only [Act.put, q14a, q14b, q14c, i64_w, i32_w]
                rfl
               refine two_ (i := 41) (j := 45) (Ni := some 145) (Nj := some 149) #[true, true, true, true, true, true, true, true, true, true, true, true, true, true, true, true, true, true, true, true, true, true, true, true, true, true, true, true, true, true, true, true, true, true, true, true, true, true, true, true, true, true, true, true, true, false, false, false, false, false, false, false, false, false, false, false] #[true, true, true, true, true, true, true, true, true, true, true, true, true, true, true, true, true, true, true, true, true, true, true, true, true, true, true, true, true, true, true, true, true, true, true, true, true, true, true, true, true, false, true, true, true, true, false, false, false, false, false, false, false, false, false, false] rfl rfl rfl rfl (two_of HT_.out (by kernel_rfl)) (by decide) (by decide) (fun K hK => ?_) (fun K hK => ?_)
               ·skip
                have hcv198 := own_string (P := Tryd.prog) Tryd.underlying24 Tryd.underlying5 Tryd.underlying9 (Kd.own_of_R HO341.out)
                refine value_ (w1 := ?_) (v := ?_) (by rfl) rfl ?_ ?_
                rotate_left 2
                ·go_simp
                 constructor
                 ·rfl
                 ·rfl
                clear hcv198
                refine hK.out _ _ ⟨(blk_cell BK297.out 0).trans rfl, (blk_cell BK297.out 1).trans rfl, (blk_cell BK298.out 0).trans rfl, (blk_cell BK298.out 1).trans rfl⟩ (fun hHeld => ?_)
                clear hK K
                refine norm_ (a' := ?_) ?_ ?_
                rotate_left
                ·show Act.put _ (some 145) _ = _
                 simp only [Act.put, q14a, q14b, q14c, i64_w, i32_w]
                 rfl
                refine one_ (i := 45) (N := some 149) #[true, true, true, true, true, true, true, true, true, true, true, true, true, true, true, true, true, true, true, true, true, true, true, true, true, true, true, true, true, true, true, true, true, true, true, true, true, true, true, true, true, true, true, true, true, true, false, false, false, false, false, false, false, false, false, false] rfl rfl (one_of HT_.out (by kernel_rfl)) (by decide) (fun K hK => ?_)
                have hcv199 := own_string (P := Tryd.prog) Tryd.underlying24 Tryd.underlying5 Tryd.underlying9 (Kd.own_of_R HO344.out)
                refine value_ (w1 := ?_) (v := ?_) (by rfl) rfl ?_ ?_
                rotate_left 2
                ·go_simp
                 constructor
                 ·rfl
                 ·rfl
                clear hcv199
                refine hK.out _ _ ⟨(blk_cell BK297.out 0).trans rfl, (blk_cell BK297.out 1).trans rfl, (blk_cell BK298.out 0).trans rfl, (blk_cell BK298.out 1).trans rfl⟩ (fun hHeld => ?_)
                clear hK K
                refine norm_ (a' := ?_) ?_ ?_
                rotate_left
                ·show Act.put _ (some 149) _ = _
                 simp only [Act.put, q14a, q14b, q14c, i64_w, i32_w]
                 rfl
                exact norm_ (by simp only [putAll, Act.put, q14a, q14b, q14c]) (hCont (v343) _ ⟨hHeld, (by (with_reducible repeat (first | apply Kd.R_alloc | apply Kd.R_drewN | apply Kd.R_drew)); exact Kd.R_mono HO341.out (fun _ hk => hk.2)), (by (with_reducible repeat (first | apply Kd.R_alloc | apply Kd.R_drewN | apply Kd.R_drew)); exact Kd.R_mono HO344.out (fun _ hk => hk.2)), (by (with_reducible repeat (first | refine blk_drewN ?_ _ | refine blk_drew ?_ | refine blk_alloc ?_ _)); exact BK297.out), (by (with_reducible repeat (first | refine blk_drewN ?_ _ | refine blk_drew ?_ | refine blk_alloc ?_ _)); exact BK298.out), (by (with_reducible repeat (first | refine blk_drewN ?_ _ | refine blk_drew ?_ | refine blk_alloc ?_ _)); exact BK306.out), (by (with_reducible repeat (first | refine blk_drewN ?_ _ | refine blk_drew ?_ | refine blk_alloc ?_ _)); exact BK313.out), (by (with_reducible repeat (first | refine blk_drewN ?_ _ | refine blk_drew ?_ | refine blk_alloc ?_ _)); exact BK325.out), (by (with_reducible repeat (first | refine blk_drewN ?_ _ | refine blk_drew ?_ | refine blk_alloc ?_ _)); exact BK329.out), (by repeat (first | (with_reducible first | exact HB.out | apply below_alloc | apply pw_below_drewN | apply below_drew1 | refine below_set ?_ GE297.out | refine below_set ?_ GE298.out | refine below_set ?_ GE306.out | refine below_set ?_ GE313.out | refine below_set ?_ GE325.out | refine below_set ?_ GE329.out) | exact HB.out))⟩)
               ·skip
                have hcv198 := own_string (P := Tryd.prog) Tryd.underlying24 Tryd.underlying5 Tryd.underlying9 (Kd.own_of_R HO344.out)
                refine value_ (w1 := ?_) (v := ?_) (by rfl) rfl ?_ ?_
                rotate_left 2
                ·go_simp
                 constructor
                 ·rfl
                 ·rfl
                clear hcv198
                refine hK.out _ _ ⟨(blk_cell BK297.out 0).trans rfl, (blk_cell BK297.out 1).trans rfl, (blk_cell BK298.out 0).trans rfl, (blk_cell BK298.out 1).trans rfl⟩ (fun hHeld => ?_)
                clear hK K
                refine norm_ (a' := ?_) ?_ ?_
                rotate_left
                ·show Act.put _ (some 149) _ = _
                 simp only [Act.put, q14a, q14b, q14c, i64_w, i32_w]
                 rfl
                refine one_ (i := 41) (N := some 145) #[true, true, true, true, true, true, true, true, true, true, true, true, true, true, true, true, true, true, true, true, true, true, true, true, true, true, true, true, true, true, true, true, true, true, true, true, true, true, true, true, true, true, true, true, true, true, false, false, false, false, false, false, false, false, false, false] rfl rfl (one_of HT_.out (by kernel_rfl)) (by decide) (fun K hK => ?_)
                have hcv199 := own_string (P := Tryd.prog) Tryd.underlying24 Tryd.underlying5 Tryd.underlying9 (Kd.own_of_R HO341.out)
                refine value_ (w1 := ?_) (v := ?_) (by rfl) rfl ?_ ?_
                rotate_left 2
                ·go_simp
                 constructor
                 ·rfl
                 ·rfl
                clear hcv199
                refine hK.out _ _ ⟨(blk_cell BK297.out 0).trans rfl, (blk_cell BK297.out 1).trans rfl, (blk_cell BK298.out 0).trans rfl, (blk_cell BK298.out 1).trans rfl⟩ (fun hHeld => ?_)
                clear hK K
                refine norm_ (a' := ?_) ?_ ?_
                rotate_left
                ·show Act.put _ (some 145) _ = _
                 simp only [Act.put, q14a, q14b, q14c, i64_w, i32_w]
                 rfl
                exact norm_ (by simp only [putAll, Act.put, q14a, q14b, q14c]) (hCont (v343) _ ⟨hHeld, (by (with_reducible repeat (first | apply Kd.R_alloc | apply Kd.R_drewN | apply Kd.R_drew)); exact Kd.R_mono HO341.out (fun _ hk => hk.2)), (by (with_reducible repeat (first | apply Kd.R_alloc | apply Kd.R_drewN | apply Kd.R_drew)); exact Kd.R_mono HO344.out (fun _ hk => hk.2)), (by (with_reducible repeat (first | refine blk_drewN ?_ _ | refine blk_drew ?_ | refine blk_alloc ?_ _)); exact BK297.out), (by (with_reducible repeat (first | refine blk_drewN ?_ _ | refine blk_drew ?_ | refine blk_alloc ?_ _)); exact BK298.out), (by (with_reducible repeat (first | refine blk_drewN ?_ _ | refine blk_drew ?_ | refine blk_alloc ?_ _)); exact BK306.out), (by (with_reducible repeat (first | refine blk_drewN ?_ _ | refine blk_drew ?_ | refine blk_alloc ?_ _)); exact BK313.out), (by (with_reducible repeat (first | refine blk_drewN ?_ _ | refine blk_drew ?_ | refine blk_alloc ?_ _)); exact BK325.out), (by (with_reducible repeat (first | refine blk_drewN ?_ _ | refine blk_drew ?_ | refine blk_alloc ?_ _)); exact BK329.out), (by repeat (first | (with_reducible first | exact HB.out | apply below_alloc | apply pw_below_drewN | apply below_drew1 | refine below_set ?_ GE297.out | refine below_set ?_ GE298.out | refine below_set ?_ GE306.out | refine below_set ?_ GE313.out | refine below_set ?_ GE325.out | refine below_set ?_ GE329.out) | exact HB.out))⟩)
             rintro v343 w200 ⟨hS_, h0_, h1_, h2_, h3_, h4_, h5_, h6_, h7_, h8_⟩
             have n0_ : Aside0 (Kd.R (Kd.int .u8) 5 w200 w.heap.size (fun k_ => some k_ ≠ (v343 : Value).ownBlock) v340 t339) := ⟨h0_⟩
             have n1_ : Aside0 (Kd.R (Kd.int .u8) 5 w200 w.heap.size (fun k_ => some k_ ≠ (v340 : Value).ownBlock) v343 t342) := ⟨h1_⟩
             have n2_ : Aside0 (w200.heap[gb297]? = some (.cells #[.int .i64 a0_0, .int .i64 a0_1] 23 (0, 0))) := ⟨h2_⟩
             have n3_ : Aside0 (w200.heap[gb298]? = some (.cells #[.int .i64 a1_0, .int .i64 a1_1] 23 (0, 0))) := ⟨h3_⟩
             have n4_ : Aside0 (w200.heap[gb306]? = some (.cells #[.int .i64 t300, .int .i64 t301] 23 (0, 0))) := ⟨h4_⟩
             have n5_ : Aside0 (w200.heap[gb313]? = some (.cells #[.int .i64 t307, .int .i64 t308] 23 (0, 0))) := ⟨h5_⟩
             have n6_ : Aside0 (w200.heap[gb325]? = some (.cells #[.int .i64 t322, .int .i64 t323] 23 (0, 0))) := ⟨h6_⟩
             have n7_ : Aside0 (w200.heap[gb329]? = some (.cells #[.int .i64 t326, .int .i64 t327] 23 (0, 0))) := ⟨h7_⟩
             have n8_ : Aside0 (Below w.heap.size w w200) := ⟨h8_⟩
             clear BK297
             clear BK298
             clear BK306
             clear BK313
             clear BK325
             clear BK329
             clear HB
             clear h0_ h1_ h2_ h3_ h4_ h5_ h6_ h7_ h8_
             have HO341 := n0_
             have HO344 := n1_
             have BK297 := n2_
             have BK298 := n3_
             have BK306 := n4_
             have BK313 := n5_
             have BK325 := n6_
             have BK329 := n7_
             have HB := n8_
             clear n0_ n1_ n2_ n3_ n4_ n5_ n6_ n7_ n8_
             have hHeld : w200.cell? ⟨gb297, 0, none⟩ = some (.int .i64 a0_0) ∧ w200.cell? ⟨gb297, 1, none⟩ = some (.int .i64 a0_1) ∧ w200.cell? ⟨gb298, 0, none⟩ = some (.int .i64 a1_0) ∧ w200.cell? ⟨gb298, 1, none⟩ = some (.int .i64 a1_1) := hS_
             refine norm_ (a' := ?_) ?_ ?_
             rotate_left
             ·simp only [putAll, Act.put, q14a, q14b, q14c]
              rfl
             refine pure_ (i := 46) (N := some 150) (v := ?_) (a' := ?_) #[true, true, true, true, true, true, true, true, true, true, true, true, true, true, true, true, true, true, true, true, true, true, true, true, true, true, true, true, true, true, true, true, true, true, true, true, true, true, true, true, true, true, true, true, true, true, true, false, false, false, false, false, false, false, false, false] rfl rfl (any_of HT_.out (by kernel_rfl)) (fun _ _ _ h => h) (Or.inl ⟨by rfl, ?_⟩) ?_ ?_
             rotate_left
             ·intro w'
              go_simp
              with_reducible rfl
             rotate_left
             ·simp only [Act.put, q14a, q14b, q14c, i64_w, i32_w]
              rfl
             refine pure_ (i := 47) (N := some 151) (v := ?_) (a' := ?_) #[true, true, true, true, true, true, true, true, true, true, true, true, true, true, true, true, true, true, true, true, true, true, true, true, true, true, true, true, true, true, true, true, true, true, true, true, true, true, true, true, true, true, true, true, true, true, true, true, false, false, false, false, false, false, false, false] rfl rfl (any_of HT_.out (by kernel_rfl)) (fun _ _ _ h => h) (Or.inl ⟨by rfl, ?_⟩) ?_ ?_
             rotate_left
             ·intro w'
              go_simp
              with_reducible rfl
             rotate_left
             ·simp only [Act.put, q14a, q14b, q14c, i64_w, i32_w]
              rfl
             refine pure_ (i := 48) (N := some 152) (v := ?_) (a' := ?_) #[true, true, true, true, true, true, true, true, true, true, true, true, true, true, true, true, true, true, true, true, true, true, true, true, true, true, true, true, true, true, true, true, true, true, true, true, true, true, true, true, true, true, true, true, true, true, true, true, true, false, false, false, false, false, false, false] rfl rfl (any_of HT_.out (by kernel_rfl)) (fun _ _ _ h => h) (Or.inl ⟨by rfl, ?_⟩) ?_ ?_
             rotate_left
             ·intro w'
              go_simp
              with_reducible rfl
             rotate_left
             ·simp only [Act.put, q14a, q14b, q14c, i64_w, i32_w]
              rfl
             refine take_ (i := 49) (N := some 153) (v := ?_) (a' := ?_) #[true, true, true, true, true, true, true, true, true, true, true, true, true, true, true, true, true, true, true, true, true, true, true, true, true, true, true, true, true, true, true, true, true, true, true, true, true, true, true, true, true, true, true, true, true, true, true, true, true, true, false, false, false, false, false, false] rfl rfl (take_ofW HT_.out HW_.out (by kernel_rfl)) (fun _ _ _ h => h) (Or.inl ⟨by rfl, ?_⟩) hHeld ?_ ?_
             rotate_left
             ·rintro w' ⟨s0, s1, s2, s3⟩
              go_simp
              with_reducible rfl
             rotate_left
             ·simp only [Act.put, q14a, q14b, q14c, i64_w, i32_w]
              rfl
             refine take_ (i := 51) (N := some 155) (v := ?_) (a' := ?_) #[true, true, true, true, true, true, true, true, true, true, true, true, true, true, true, true, true, true, true, true, true, true, true, true, true, true, true, true, true, true, true, true, true, true, true, true, true, true, true, true, true, true, true, true, true, true, true, true, true, true, false, true, false, false, false, false] rfl rfl (take_ofW HT_.out HW_.out (by kernel_rfl)) (fun _ _ _ h => h) (Or.inl ⟨by rfl, ?_⟩) hHeld ?_ ?_
             rotate_left
             ·rintro w' ⟨s0, s1, s2, s3⟩
              go_simp
              with_reducible rfl
             rotate_left
             ·simp only [Act.put, q14a, q14b, q14c, i64_w, i32_w]
              rfl
             refine one_ (i := 50) (N := some 154) #[true, true, true, true, true, true, true, true, true, true, true, true, true, true, true, true, true, true, true, true, true, true, true, true, true, true, true, true, true, true, true, true, true, true, true, true, true, true, true, true, true, true, true, true, true, true, true, true, true, true, true, true, false, false, false, false] rfl rfl (one_of HT_.out (by kernel_rfl)) (by decide) (fun K hK => ?_)
             refine goes_ Tryd.func28 (by kernel_rfl) rfl #[.agg #[.int .i64 a0_0, .int .i64 a0_1]] (by rfl) rfl rfl (by (try simp only [List.map_toArray, List.map_cons, List.map_nil]); first | done | rfl | (simp only [List.length_drop, List.length_take]; rfl)) ?_
             with_reducible refine (prefix_Text.calls kj18 a0_0 a0_1 t345 _ ?side1 A185.out).mono ?_
             (case side1 => exact Tabs.below HT.out (by repeat (first | (with_reducible first | exact HB.out | apply below_alloc | apply pw_below_drewN | apply below_drew1 | refine below_set ?_ GE297.out | refine below_set ?_ GE298.out | refine below_set ?_ GE306.out | refine below_set ?_ GE313.out | refine below_set ?_ GE325.out | refine below_set ?_ GE329.out) | exact HB.out)))
             rintro e w201 ⟨rfl, hb⟩
             refine ⟨_, rfl, ?_⟩
             have n0_ := Aside0.mk (Kd.R_below (by (with_reducible repeat (first | apply Kd.R_alloc | apply Kd.R_drewN | apply Kd.R_drew)); exact HO341.out) hb)
             have n1_ := Aside0.mk (Kd.R_below (by (with_reducible repeat (first | apply Kd.R_alloc | apply Kd.R_drewN | apply Kd.R_drew)); exact HO344.out) hb)
             have n2_ := Aside0.mk (blk_below (g := gb297) (o := .cells #[.int .i64 a0_0, .int .i64 a0_1] 23 (0, 0)) (by (with_reducible repeat (first | refine blk_drewN ?_ _ | refine blk_drew ?_ | refine blk_alloc ?_ _)); exact BK297.out) hb)
             have n3_ := Aside0.mk (blk_below (g := gb298) (o := .cells #[.int .i64 a1_0, .int .i64 a1_1] 23 (0, 0)) (by (with_reducible repeat (first | refine blk_drewN ?_ _ | refine blk_drew ?_ | refine blk_alloc ?_ _)); exact BK298.out) hb)
             have n4_ := Aside0.mk (blk_below (g := gb306) (o := .cells #[.int .i64 t300, .int .i64 t301] 23 (0, 0)) (by (with_reducible repeat (first | refine blk_drewN ?_ _ | refine blk_drew ?_ | refine blk_alloc ?_ _)); exact BK306.out) hb)
             have n5_ := Aside0.mk (blk_below (g := gb313) (o := .cells #[.int .i64 t307, .int .i64 t308] 23 (0, 0)) (by (with_reducible repeat (first | refine blk_drewN ?_ _ | refine blk_drew ?_ | refine blk_alloc ?_ _)); exact BK313.out) hb)
             have n6_ := Aside0.mk (blk_below (g := gb325) (o := .cells #[.int .i64 t322, .int .i64 t323] 23 (0, 0)) (by (with_reducible repeat (first | refine blk_drewN ?_ _ | refine blk_drew ?_ | refine blk_alloc ?_ _)); exact BK325.out) hb)
             have n7_ := Aside0.mk (blk_below (g := gb329) (o := .cells #[.int .i64 t326, .int .i64 t327] 23 (0, 0)) (by (with_reducible repeat (first | refine blk_drewN ?_ _ | refine blk_drew ?_ | refine blk_alloc ?_ _)); exact BK329.out) hb)
             have n8_ := Aside0.mk (below_step (by repeat (first | (with_reducible first | exact HB.out | apply below_alloc | apply pw_below_drewN | apply below_drew1 | refine below_set ?_ GE297.out | refine below_set ?_ GE298.out | refine below_set ?_ GE306.out | refine below_set ?_ GE313.out | refine below_set ?_ GE325.out | refine below_set ?_ GE329.out) | exact HB.out)) hb)
             clear HO341
             clear HO344
             clear BK297
             clear BK298
             clear BK306
             clear BK313
             clear BK325
             clear BK329
             clear HB
             have HO341 := n0_
             have HO344 := n1_
             have BK297 := n2_
             have BK298 := n3_
             have BK306 := n4_
             have BK313 := n5_
             have BK325 := n6_
             have BK329 := n7_
             have HB := n8_
             clear n0_ n1_ n2_ n3_ n4_ n5_ n6_ n7_ n8_
             (try clear hb)
             (try clear hb2)
             (try clear hk)
             (try clear hi)
             refine hK.out _ _ ⟨(blk_cell BK297.out 0).trans rfl, (blk_cell BK297.out 1).trans rfl, (blk_cell BK298.out 0).trans rfl, (blk_cell BK298.out 1).trans rfl⟩ (fun hHeld => ?_)
             clear hK K
             refine norm_ (a' := ?_) ?_ ?_
             rotate_left
             ·show Act.put _ (some 154) _ = _
              simp only [Act.put, q14a, q14b, q14c, i64_w, i32_w]
              rfl
             refine one_ (i := 52) (N := some 156) #[true, true, true, true, true, true, true, true, true, true, true, true, true, true, true, true, true, true, true, true, true, true, true, true, true, true, true, true, true, true, true, true, true, true, true, true, true, true, true, true, true, true, true, true, true, true, true, true, true, true, true, true, true, false, false, false] rfl rfl (one_of HT_.out (by kernel_rfl)) (by decide) (fun K hK => ?_)
             refine goes_ Tryd.func29 (by kernel_rfl) rfl #[.agg #[.int .i64 a0_0, .int .i64 a0_1]] (by rfl) rfl rfl (by (try simp only [List.map_toArray, List.map_cons, List.map_nil]); first | done | rfl | (simp only [List.length_drop, List.length_take]; rfl)) ?_
             with_reducible refine (ridgewayref02_Text.calls kj18 a0_0 a0_1 t346 _ A186.out).mono ?_
             rintro e w202 ⟨rfl, hb⟩
             refine ⟨_, rfl, ?_⟩
             have n0_ := Aside0.mk (Kd.R_below (by (with_reducible repeat (first | apply Kd.R_alloc | apply Kd.R_drewN | apply Kd.R_drew)); exact HO341.out) hb)
             have n1_ := Aside0.mk (Kd.R_below (by (with_reducible repeat (first | apply Kd.R_alloc | apply Kd.R_drewN | apply Kd.R_drew)); exact HO344.out) hb)
             have n2_ := Aside0.mk (blk_below (g := gb297) (o := .cells #[.int .i64 a0_0, .int .i64 a0_1] 23 (0, 0)) (by (with_reducible repeat (first | refine blk_drewN ?_ _ | refine blk_drew ?_ | refine blk_alloc ?_ _)); exact BK297.out) hb)
             have n3_ := Aside0.mk (blk_below (g := gb298) (o := .cells #[.int .i64 a1_0, .int .i64 a1_1] 23 (0, 0)) (by (with_reducible repeat (first | refine blk_drewN ?_ _ | refine blk_drew ?_ | refine blk_alloc ?_ _)); exact BK298.out) hb)
             have n4_ := Aside0.mk (blk_below (g := gb306) (o := .cells #[.int .i64 t300, .int .i64 t301] 23 (0, 0)) (by (with_reducible repeat (first | refine blk_drewN ?_ _ | refine blk_drew ?_ | refine blk_alloc ?_ _)); exact BK306.out) hb)
             have n5_ := Aside0.mk (blk_below (g := gb313) (o := .cells #[.int .i64 t307, .int .i64 t308] 23 (0, 0)) (by (with_reducible repeat (first | refine blk_drewN ?_ _ | refine blk_drew ?_ | refine blk_alloc ?_ _)); exact BK313.out) hb)
             have n6_ := Aside0.mk (blk_below (g := gb325) (o := .cells #[.int .i64 t322, .int .i64 t323] 23 (0, 0)) (by (with_reducible repeat (first | refine blk_drewN ?_ _ | refine blk_drew ?_ | refine blk_alloc ?_ _)); exact BK325.out) hb)
             have n7_ := Aside0.mk (blk_below (g := gb329) (o := .cells #[.int .i64 t326, .int .i64 t327] 23 (0, 0)) (by (with_reducible repeat (first | refine blk_drewN ?_ _ | refine blk_drew ?_ | refine blk_alloc ?_ _)); exact BK329.out) hb)
             have n8_ := Aside0.mk (below_step (by repeat (first | (with_reducible first | exact HB.out | apply below_alloc | apply pw_below_drewN | apply below_drew1 | refine below_set ?_ GE297.out | refine below_set ?_ GE298.out | refine below_set ?_ GE306.out | refine below_set ?_ GE313.out | refine below_set ?_ GE325.out | refine below_set ?_ GE329.out) | exact HB.out)) hb)
             clear HO341
             clear HO344
             clear BK297
             clear BK298
             clear BK306
             clear BK313
             clear BK325
             clear BK329
             clear HB
             have HO341 := n0_
             have HO344 := n1_
             have BK297 := n2_
             have BK298 := n3_
             have BK306 := n4_
             have BK313 := n5_
             have BK325 := n6_
             have BK329 := n7_
             have HB := n8_
             clear n0_ n1_ n2_ n3_ n4_ n5_ n6_ n7_ n8_
             (try clear hb)
             (try clear hb2)
             (try clear hk)
             (try clear hi)
             refine hK.out _ _ ⟨(blk_cell BK297.out 0).trans rfl, (blk_cell BK297.out 1).trans rfl, (blk_cell BK298.out 0).trans rfl, (blk_cell BK298.out 1).trans rfl⟩ (fun hHeld => ?_)
             clear hK K
             refine norm_ (a' := ?_) ?_ ?_
             rotate_left
             ·show Act.put _ (some 156) _ = _
              simp only [Act.put, q14a, q14b, q14c, i64_w, i32_w]
              rfl
             refine pure_ (i := 53) (N := some 157) (v := ?_) (a' := ?_) #[true, true, true, true, true, true, true, true, true, true, true, true, true, true, true, true, true, true, true, true, true, true, true, true, true, true, true, true, true, true, true, true, true, true, true, true, true, true, true, true, true, true, true, true, true, true, true, true, true, true, true, true, true, true, false, false] rfl rfl (any_of HT_.out (by kernel_rfl)) (fun _ _ _ h => h) (Or.inl ⟨by rfl, ?_⟩) ?_ ?_
             rotate_left
             ·intro w'
              go_simp
              with_reducible rfl
             rotate_left
             ·simp only [Act.put, q14a, q14b, q14c, i64_w, i32_w]
              rfl
             refine pure_ (i := 54) (N := some 158) (v := ?_) (a' := ?_) #[true, true, true, true, true, true, true, true, true, true, true, true, true, true, true, true, true, true, true, true, true, true, true, true, true, true, true, true, true, true, true, true, true, true, true, true, true, true, true, true, true, true, true, true, true, true, true, true, true, true, true, true, true, true, true, false] rfl rfl (any_of HT_.out (by kernel_rfl)) (fun _ _ _ h => h) (Or.inl ⟨by rfl, ?_⟩) ?_ ?_
             rotate_left
             ·intro w'
              go_simp
              with_reducible rfl
             rotate_left
             ·simp only [Act.put, q14a, q14b, q14c, i64_w, i32_w]
              rfl
             refine pure_ (i := 55) (N := some 10) (v := ?_) (a' := ?_) #[true, true, true, true, true, true, true, true, true, true, true, true, true, true, true, true, true, true, true, true, true, true, true, true, true, true, true, true, true, true, true, true, true, true, true, true, true, true, true, true, true, true, true, true, true, true, true, true, true, true, true, true, true, true, true, true] rfl rfl (any_of HT_.out (by kernel_rfl)) (fun _ _ _ h => h) (Or.inl ⟨by rfl, ?_⟩) ?_ ?_
             rotate_left
             ·intro w'
              go_simp
              with_reducible rfl
             rotate_left
             ·simp only [Act.put, q14a, q14b, q14c, i64_w, i32_w]
              rfl
             refine done_ (done_of HT_.out (by kernel_rfl)) ?_
             try go_wp2
             go_ret
             exact ⟨by first | rfl | (simp [errW_none, errW_some] <;> rfl) | (simp [*, errW_none, errW_some] <;> rfl), by repeat (first | (with_reducible first | exact HB.out | apply below_alloc | apply pw_below_drewN | apply below_drew1 | refine below_set ?_ GE297.out | refine below_set ?_ GE298.out | refine below_set ?_ GE306.out | refine below_set ?_ GE313.out | refine below_set ?_ GE325.out | refine below_set ?_ GE329.out) | exact HB.out)⟩
            ·rw [if_neg c184] at H
             have c184b0 : ((strOfNums t339).toList == (strOfNums t342).toList) = false := beq_eq_false_iff_ne.mpr c184
             have c184b1 : ((strOfNums t339).toList != (strOfNums t342).toList) = true := bne_iff_ne.mpr c184
             exact absurd H (by simp)
           ·rw [if_neg c181] at H
            have c181b0 : (t337 == t338) = false := beq_eq_false_iff_ne.mpr c181
            have c181b1 : (t337 != t338) = true := bne_iff_ne.mpr c181
            exact absurd H (by simp)
          ·rw [if_neg c178] at H
           have c178b0 : (t335 == t336) = false := by simpa using c178
           (try (have c178b1 : decide (t335 = t336) = false := by simpa using c178))
           (try (have c178b2 : (t335 == t336) = false := by simpa using c178))
           (try (have c178b3 : ¬ (t335 = t336) := by simpa using c178))
           clear c178
           exact absurd H (by simp)
         ·rw [if_neg c175] at H
          have c175b0 : (t333 == t334) = false := by simpa using c175
          (try (have c175b1 : decide (t333 = t334) = false := by simpa using c175))
          (try (have c175b2 : (t333 == t334) = false := by simpa using c175))
          (try (have c175b3 : ¬ (t333 = t334) := by simpa using c175))
          clear c175
          exact absurd H (by simp)
        ·rw [if_neg c172] at H
         have c172b0 : (t331 == t332) = false := beq_eq_false_iff_ne.mpr c172
         have c172b1 : (t331 != t332) = true := bne_iff_ne.mpr c172
         exact absurd H (by simp)
       ·replace c169 := Bool.eq_false_iff.mpr c169
        subst c169
        have H1 : (none) = some r := by rw [if_neg (show ¬ (false = true) by decide)] at H; exact H
        clear H
        have H := H1
        clear H1
        exact absurd H (by simp)

end Go.Proofs.YtckjfplocmbcmaaDoor.PAll
