-- Written by a program of this session's (wip/tools), out of the translation. Lean checks it.
import Derived.Test.YtmbacpnmniemnaaPAllx0
import Derived.Test.YtmbacpnmniemnaaPAllx1
import Derived.Test.YtmbacpnmniemnaaPAllx3
namespace Go.Proofs.Ytmbacpnmniemnaa.PAll
open Go.RowKit Go.Proofs.YtmbacpnmniemnaaW.PrintWords Go.Proofs.YtmbacpnmniemnaaW.PrintLast Go.Proofs.YtmbacpnmniemnaaW.PrintMore
attribute [local go_sem] max2_int min2_int max_two min_two max_three min_three max_four min_four   -- for this text's walks alone
set_option linter.unusedVariables false
set_option linter.unusedSimpArgs false

theorem zN6 {w : World} {g : Nat} {o : Obj} (h : w.heap[g]? = some o) (m : Nat) : (w.drewN m).heap[g]? = some o := blk_drewN h m
theorem zD6 {w : World} {g : Nat} {o : Obj} (h : w.heap[g]? = some o) : w.drew.heap[g]? = some o := blk_drew h
theorem zA6 {w : World} {g : Nat} {o : Obj} (h : w.heap[g]? = some o) (u : Obj) : (w.alloc u).heap[g]? = some o := blk_alloc h u
theorem vA6 {α : Type} {d : Kd α} {e base : Nat} {ok : Nat → Prop} {W : World} {v : Value} {xs : List α} (h : d.V e W base ok v xs) (o : Obj) : d.V e (W.alloc o) base ok v xs := Kd.V_alloc h o
theorem vN6 {α : Type} {d : Kd α} {e base : Nat} {ok : Nat → Prop} {W : World} {v : Value} {xs : List α} (h : d.V e W base ok v xs) (m : Nat) : d.V e (W.drewN m) base ok v xs := Kd.V_drewN h m
theorem vD6 {α : Type} {d : Kd α} {e base : Nat} {ok : Nat → Prop} {W : World} {v : Value} {xs : List α} (h : d.V e W base ok v xs) : d.V e W.drew base ok v xs := Kd.V_drew h
/-! ### ridgewaylaw09_RouteBest: function 6 -/
mutual
def ridgewaylaw09_RouteBest.j0 : Nat → List (S27) → List (S27) → Bool → Bool → Option (Bool)
 | 0, _, _, _, _ => none
 | k + 1, x0, x1, x5, x27 => if x27 = true then (some x5) else ((route_Best.f k x0).bind fun bt315 => ((route_Best.f k x1).bind fun bt325 => (ridgewaylaw09_RouteBest.l0 k x0 x1 x5 bt315.2.2.2.2.2.2 bt325.2.2.2.2.2.2 false ([] : List (S27)) (wrap64 ((x0.length : Int) - 1)) bt315.1 bt315.2.1 bt315.2.2.1 bt315.2.2.2.1 bt315.2.2.2.2.1 bt315.2.2.2.2.2.1 bt325.1 bt325.2.1 bt325.2.2.1 bt325.2.2.2.1 bt325.2.2.2.2.1 bt325.2.2.2.2.2.1)))
def ridgewaylaw09_RouteBest.l0 : Nat → List (S27) → List (S27) → Bool → Bool → Bool → Bool → List (S27) → Int → Int → Int → List Int → Int → Int → Int → Int → Int → List Int → Int → Int → Int → Option (Bool)
 | 0, _, _, _, _, _, _, _, _, _, _, _, _, _, _, _, _, _, _, _, _ => none
 | k + 1, x0, x1, x5, x7, x9, x10, x11, x12, x325000, x325001, x325002, x325003, x325004, x325005, x335000, x335001, x335002, x335003, x335004, x335005 => if x12 ≥ 0 then (if x10 = true then (ridgewaylaw09_RouteBest.j2 k x0 x1 x5 x7 x9 true x11 x12 x325000 x325001 x325002 x325003 x325004 x325005 x335000 x335001 x335002 x335003 x335004 x335005) else (if 0 ≤ x12 then (if x12 < (x0.length : Int) then ((route_Same.f ((rd_T27 x0 x12).f0) ((rd_T27 x0 x12).f1.f0) ((rd_T27 x0 x12).f1.f1) ((rd_T27 x0 x12).f1.f2) ((rd_T27 x0 x12).f1.f3) ((rd_T27 x0 x12).f2) x325000 x325001 x325002 x325003 x325004 x325005).bind fun t336 => (ridgewaylaw09_RouteBest.j2 k x0 x1 x5 x7 x9 t336 x11 x12 x325000 x325001 x325002 x325003 x325004 x325005 x335000 x335001 x335002 x335003 x335004 x335005)) else (none)) else (none))) else (if (x7 != (decide ((x0.length : Int) > 0))) = true then (ridgewaylaw09_RouteBest.j3 k x0 x1 x5 x7 x9 x11 true x325000 x325001 x325002 x325003 x325004 x325005 x335000 x335001 x335002 x335003 x335004 x335005) else (ridgewaylaw09_RouteBest.j3 k x0 x1 x5 x7 x9 x11 (x7 != x10) x325000 x325001 x325002 x325003 x325004 x325005 x335000 x335001 x335002 x335003 x335004 x335005))
def ridgewaylaw09_RouteBest.j2 : Nat → List (S27) → List (S27) → Bool → Bool → Bool → Bool → List (S27) → Int → Int → Int → List Int → Int → Int → Int → Int → Int → List Int → Int → Int → Int → Option (Bool)
 | 0, _, _, _, _, _, _, _, _, _, _, _, _, _, _, _, _, _, _, _, _ => none
 | k + 1, x0, x1, x5, x7, x9, x10, x11, x12, x325000, x325001, x325002, x325003, x325004, x325005, x335000, x335001, x335002, x335003, x335004, x335005 => if 0 ≤ x12 then (if x12 < (x0.length : Int) then (if x11.length < 2199023255552 then ((route_Compare.f ((rd_T27 x0 x12).f0) ((rd_T27 x0 x12).f1.f0) ((rd_T27 x0 x12).f1.f1) ((rd_T27 x0 x12).f1.f2) ((rd_T27 x0 x12).f1.f3) ((rd_T27 x0 x12).f2) x325000 x325001 x325002 x325003 x325004 x325005).bind fun t342 => (if t342 < 0 then (none) else (ridgewaylaw09_RouteBest.l0 k x0 x1 x5 x7 x9 x10 (x11 ++ [(⟨(rd_T27 x0 x12).f0, (⟨(rd_T27 x0 x12).f1.f0, (rd_T27 x0 x12).f1.f1, (rd_T27 x0 x12).f1.f2, (rd_T27 x0 x12).f1.f3⟩ : S25), (rd_T27 x0 x12).f2⟩ : S27)]) (wrap64 (x12 - 1)) x325000 x325001 x325002 x325003 x325004 x325005 x335000 x335001 x335002 x335003 x335004 x335005))) else (none)) else (none)) else (none)
def ridgewaylaw09_RouteBest.j3 : Nat → List (S27) → List (S27) → Bool → Bool → Bool → List (S27) → Bool → Int → Int → List Int → Int → Int → Int → Int → Int → List Int → Int → Int → Int → Option (Bool)
 | 0, _, _, _, _, _, _, _, _, _, _, _, _, _, _, _, _, _, _, _ => none
 | k + 1, x0, x1, x5, x7, x9, x11, x78, x325000, x325001, x325002, x325003, x325004, x325005, x335000, x335001, x335002, x335003, x335004, x335005 => if x78 = true then (none) else (if x7 = true then (if 0 < (x0.length : Int) then (if x11.length < 2199023255552 then ((route_Best.f k (x11 ++ [(⟨(rd_T27 x0 0).f0, (⟨(rd_T27 x0 0).f1.f0, (rd_T27 x0 0).f1.f1, (rd_T27 x0 0).f1.f2, (rd_T27 x0 0).f1.f3⟩ : S25), (rd_T27 x0 0).f2⟩ : S27)])).bind fun bt348 => ((some (([] : List (S27)) : List (S27))).bind fun y358 => (if y358.length + x0.length < 2199023255552 then ((some (y358 ++ x0 : List (S27))).bind fun y361 => (if y361.length + x1.length < 2199023255552 then ((route_Best.f k (y361 ++ x1)).bind fun bt367 => (if x9 = true then ((route_Compare.f x335000 x335001 x335002 x335003 x335004 x335005 x325000 x325001 x325002 x325003 x325004 x325005).bind fun t378 => (ridgewaylaw09_RouteBest.j4 k x5 bt348.2.2.2.2.2.2 bt367.2.2.2.2.2.2 (decide (t378 < 0)) x325000 x325001 x325002 x325003 x325004 x325005 x335000 x335001 x335002 x335003 x335004 x335005 bt348.1 bt348.2.1 bt348.2.2.1 bt348.2.2.2.1 bt348.2.2.2.2.1 bt348.2.2.2.2.2.1 bt367.1 bt367.2.1 bt367.2.2.1 bt367.2.2.2.1 bt367.2.2.2.2.1 bt367.2.2.2.2.2.1 x325000 x325001 x325002 x325003 x325004 x325005)) else (ridgewaylaw09_RouteBest.j4 k x5 bt348.2.2.2.2.2.2 bt367.2.2.2.2.2.2 false x325000 x325001 x325002 x325003 x325004 x325005 x335000 x335001 x335002 x335003 x335004 x335005 bt348.1 bt348.2.1 bt348.2.2.1 bt348.2.2.2.1 bt348.2.2.2.2.1 bt348.2.2.2.2.2.1 bt367.1 bt367.2.1 bt367.2.2.1 bt367.2.2.2.1 bt367.2.2.2.2.1 bt367.2.2.2.2.2.1 x325000 x325001 x325002 x325003 x325004 x325005))) else (none))) else (none)))) else (none)) else (none)) else (if x5 = true then ((route_Same.f x325000 x325001 x325002 x325003 x325004 x325005 0 0 ([] : List Int) 0 0 0).bind fun t343 => (some t343)) else (none)))
def ridgewaylaw09_RouteBest.j4 : Nat → Bool → Bool → Bool → Bool → Int → Int → List Int → Int → Int → Int → Int → Int → List Int → Int → Int → Int → Int → Int → List Int → Int → Int → Int → Int → Int → List Int → Int → Int → Int → Int → Int → List Int → Int → Int → Int → Option (Bool)
 | 0, _, _, _, _, _, _, _, _, _, _, _, _, _, _, _, _, _, _, _, _, _, _, _, _, _, _, _, _, _, _, _, _, _, _ => none
 | k + 1, x5, x14, x17, x116, x325000, x325001, x325002, x325003, x325004, x325005, x335000, x335001, x335002, x335003, x335004, x335005, x358000, x358001, x358002, x358003, x358004, x358005, x377000, x377001, x377002, x377003, x377004, x377005, x378000, x378001, x378002, x378003, x378004, x378005 => if x116 = true then (if x5 = true then (if x14 = true then ((route_Same.f x358000 x358001 x358002 x358003 x358004 x358005 x325000 x325001 x325002 x325003 x325004 x325005).bind fun t379 => (if t379 = true then (if x17 = true then ((route_Same.f x377000 x377001 x377002 x377003 x377004 x377005 x335000 x335001 x335002 x335003 x335004 x335005).bind fun t380 => (some t380)) else (none)) else (none))) else (none)) else (none)) else (if x5 = true then (if x14 = true then ((route_Same.f x358000 x358001 x358002 x358003 x358004 x358005 x325000 x325001 x325002 x325003 x325004 x325005).bind fun t381 => (if t381 = true then (if x17 = true then ((route_Same.f x377000 x377001 x377002 x377003 x377004 x377005 x378000 x378001 x378002 x378003 x378004 x378005).bind fun t382 => (some t382)) else (none)) else (none))) else (none)) else (none))
end
def ridgewaylaw09_RouteBest.f (k : Nat) (l0 : List (S27)) (l1 : List (S27)) : Option (Bool) := (ridgewaylaw09_awake.f).bind fun t312 => ((ridgewayref09_Few.f k l0).bind fun t313 => (if t313 = true then ((ridgewayref09_Few.f k l1).bind fun t314 => (ridgewaylaw09_RouteBest.j0 k l0 l1 t312 (!t314))) else (ridgewaylaw09_RouteBest.j0 k l0 l1 t312 true)))
theorem ridgewaylaw09_RouteBest.mono_l : ∀ k, (∀ y0 y1 y2 y3, LeO (ridgewaylaw09_RouteBest.j0 k y0 y1 y2 y3) (ridgewaylaw09_RouteBest.j0 (k + 1) y0 y1 y2 y3)) ∧ (∀ y0 y1 y2 y3 y4 y5 y6 y7 y8 y9 y10 y11 y12 y13 y14 y15 y16 y17 y18 y19, LeO (ridgewaylaw09_RouteBest.l0 k y0 y1 y2 y3 y4 y5 y6 y7 y8 y9 y10 y11 y12 y13 y14 y15 y16 y17 y18 y19) (ridgewaylaw09_RouteBest.l0 (k + 1) y0 y1 y2 y3 y4 y5 y6 y7 y8 y9 y10 y11 y12 y13 y14 y15 y16 y17 y18 y19)) ∧ (∀ y0 y1 y2 y3 y4 y5 y6 y7 y8 y9 y10 y11 y12 y13 y14 y15 y16 y17 y18 y19, LeO (ridgewaylaw09_RouteBest.j2 k y0 y1 y2 y3 y4 y5 y6 y7 y8 y9 y10 y11 y12 y13 y14 y15 y16 y17 y18 y19) (ridgewaylaw09_RouteBest.j2 (k + 1) y0 y1 y2 y3 y4 y5 y6 y7 y8 y9 y10 y11 y12 y13 y14 y15 y16 y17 y18 y19)) ∧ (∀ y0 y1 y2 y3 y4 y5 y6 y7 y8 y9 y10 y11 y12 y13 y14 y15 y16 y17 y18, LeO (ridgewaylaw09_RouteBest.j3 k y0 y1 y2 y3 y4 y5 y6 y7 y8 y9 y10 y11 y12 y13 y14 y15 y16 y17 y18) (ridgewaylaw09_RouteBest.j3 (k + 1) y0 y1 y2 y3 y4 y5 y6 y7 y8 y9 y10 y11 y12 y13 y14 y15 y16 y17 y18)) ∧ (∀ y0 y1 y2 y3 y4 y5 y6 y7 y8 y9 y10 y11 y12 y13 y14 y15 y16 y17 y18 y19 y20 y21 y22 y23 y24 y25 y26 y27 y28 y29 y30 y31 y32 y33, LeO (ridgewaylaw09_RouteBest.j4 k y0 y1 y2 y3 y4 y5 y6 y7 y8 y9 y10 y11 y12 y13 y14 y15 y16 y17 y18 y19 y20 y21 y22 y23 y24 y25 y26 y27 y28 y29 y30 y31 y32 y33) (ridgewaylaw09_RouteBest.j4 (k + 1) y0 y1 y2 y3 y4 y5 y6 y7 y8 y9 y10 y11 y12 y13 y14 y15 y16 y17 y18 y19 y20 y21 y22 y23 y24 y25 y26 y27 y28 y29 y30 y31 y32 y33))
 | 0 => ⟨fun _ _ _ _ r h => by simp [ridgewaylaw09_RouteBest.j0] at h, fun _ _ _ _ _ _ _ _ _ _ _ _ _ _ _ _ _ _ _ _ r h => by simp [ridgewaylaw09_RouteBest.l0] at h, fun _ _ _ _ _ _ _ _ _ _ _ _ _ _ _ _ _ _ _ _ r h => by simp [ridgewaylaw09_RouteBest.j2] at h, fun _ _ _ _ _ _ _ _ _ _ _ _ _ _ _ _ _ _ _ r h => by simp [ridgewaylaw09_RouteBest.j3] at h, fun _ _ _ _ _ _ _ _ _ _ _ _ _ _ _ _ _ _ _ _ _ _ _ _ _ _ _ _ _ _ _ _ _ _ r h => by simp [ridgewaylaw09_RouteBest.j4] at h⟩
 | k + 1 => by
  obtain ⟨ih0, ih1, ih2, ih3, ih4⟩ := ridgewaylaw09_RouteBest.mono_l k
  refine ⟨?_, ?_, ?_, ?_, ?_⟩
  ·intro y0 y1 y2 y3
   unfold ridgewaylaw09_RouteBest.j0
   repeat' first
   | (with_reducible exact ih0 _ _ _ _)
   | (with_reducible exact ih1 _ _ _ _ _ _ _ _ _ _ _ _ _ _ _ _ _ _ _ _)
   | (with_reducible exact ih2 _ _ _ _ _ _ _ _ _ _ _ _ _ _ _ _ _ _ _ _)
   | (with_reducible exact ih3 _ _ _ _ _ _ _ _ _ _ _ _ _ _ _ _ _ _ _)
   | (with_reducible exact ih4 _ _ _ _ _ _ _ _ _ _ _ _ _ _ _ _ _ _ _ _ _ _ _ _ _ _ _ _ _ _ _ _ _ _)
   | (with_reducible exact ridgewayref09_Few.mono _ _)
   | (with_reducible exact route_Best.mono _ _)
   | (with_reducible exact LeO.refl _)
   | (with_reducible exact LeO.none _)
   | (with_reducible refine LeO.ite ?_ ?_)
   | (with_reducible refine LeO.bind ?_ (fun _ => ?_))
   | exact ih0 _ _ _ _
   | exact ih1 _ _ _ _ _ _ _ _ _ _ _ _ _ _ _ _ _ _ _ _
   | exact ih2 _ _ _ _ _ _ _ _ _ _ _ _ _ _ _ _ _ _ _ _
   | exact ih3 _ _ _ _ _ _ _ _ _ _ _ _ _ _ _ _ _ _ _
   | exact ih4 _ _ _ _ _ _ _ _ _ _ _ _ _ _ _ _ _ _ _ _ _ _ _ _ _ _ _ _ _ _ _ _ _ _
   | exact ridgewayref09_Few.mono _ _
   | exact route_Best.mono _ _
   | exact LeO.none _
   | refine LeO.ite ?_ ?_
   | refine LeO.bind ?_ (fun _ => ?_)
  ·intro y0 y1 y2 y3 y4 y5 y6 y7 y8 y9 y10 y11 y12 y13 y14 y15 y16 y17 y18 y19
   unfold ridgewaylaw09_RouteBest.l0
   repeat' first
   | (with_reducible exact ih0 _ _ _ _)
   | (with_reducible exact ih1 _ _ _ _ _ _ _ _ _ _ _ _ _ _ _ _ _ _ _ _)
   | (with_reducible exact ih2 _ _ _ _ _ _ _ _ _ _ _ _ _ _ _ _ _ _ _ _)
   | (with_reducible exact ih3 _ _ _ _ _ _ _ _ _ _ _ _ _ _ _ _ _ _ _)
   | (with_reducible exact ih4 _ _ _ _ _ _ _ _ _ _ _ _ _ _ _ _ _ _ _ _ _ _ _ _ _ _ _ _ _ _ _ _ _ _)
   | (with_reducible exact ridgewayref09_Few.mono _ _)
   | (with_reducible exact route_Best.mono _ _)
   | (with_reducible exact LeO.refl _)
   | (with_reducible exact LeO.none _)
   | (with_reducible refine LeO.ite ?_ ?_)
   | (with_reducible refine LeO.bind ?_ (fun _ => ?_))
   | exact ih0 _ _ _ _
   | exact ih1 _ _ _ _ _ _ _ _ _ _ _ _ _ _ _ _ _ _ _ _
   | exact ih2 _ _ _ _ _ _ _ _ _ _ _ _ _ _ _ _ _ _ _ _
   | exact ih3 _ _ _ _ _ _ _ _ _ _ _ _ _ _ _ _ _ _ _
   | exact ih4 _ _ _ _ _ _ _ _ _ _ _ _ _ _ _ _ _ _ _ _ _ _ _ _ _ _ _ _ _ _ _ _ _ _
   | exact ridgewayref09_Few.mono _ _
   | exact route_Best.mono _ _
   | exact LeO.none _
   | refine LeO.ite ?_ ?_
   | refine LeO.bind ?_ (fun _ => ?_)
  ·intro y0 y1 y2 y3 y4 y5 y6 y7 y8 y9 y10 y11 y12 y13 y14 y15 y16 y17 y18 y19
   unfold ridgewaylaw09_RouteBest.j2
   repeat' first
   | (with_reducible exact ih0 _ _ _ _)
   | (with_reducible exact ih1 _ _ _ _ _ _ _ _ _ _ _ _ _ _ _ _ _ _ _ _)
   | (with_reducible exact ih2 _ _ _ _ _ _ _ _ _ _ _ _ _ _ _ _ _ _ _ _)
   | (with_reducible exact ih3 _ _ _ _ _ _ _ _ _ _ _ _ _ _ _ _ _ _ _)
   | (with_reducible exact ih4 _ _ _ _ _ _ _ _ _ _ _ _ _ _ _ _ _ _ _ _ _ _ _ _ _ _ _ _ _ _ _ _ _ _)
   | (with_reducible exact ridgewayref09_Few.mono _ _)
   | (with_reducible exact route_Best.mono _ _)
   | (with_reducible exact LeO.refl _)
   | (with_reducible exact LeO.none _)
   | (with_reducible refine LeO.ite ?_ ?_)
   | (with_reducible refine LeO.bind ?_ (fun _ => ?_))
   | exact ih0 _ _ _ _
   | exact ih1 _ _ _ _ _ _ _ _ _ _ _ _ _ _ _ _ _ _ _ _
   | exact ih2 _ _ _ _ _ _ _ _ _ _ _ _ _ _ _ _ _ _ _ _
   | exact ih3 _ _ _ _ _ _ _ _ _ _ _ _ _ _ _ _ _ _ _
   | exact ih4 _ _ _ _ _ _ _ _ _ _ _ _ _ _ _ _ _ _ _ _ _ _ _ _ _ _ _ _ _ _ _ _ _ _
   | exact ridgewayref09_Few.mono _ _
   | exact route_Best.mono _ _
   | exact LeO.none _
   | refine LeO.ite ?_ ?_
   | refine LeO.bind ?_ (fun _ => ?_)
  ·intro y0 y1 y2 y3 y4 y5 y6 y7 y8 y9 y10 y11 y12 y13 y14 y15 y16 y17 y18
   unfold ridgewaylaw09_RouteBest.j3
   repeat' first
   | (with_reducible exact ih0 _ _ _ _)
   | (with_reducible exact ih1 _ _ _ _ _ _ _ _ _ _ _ _ _ _ _ _ _ _ _ _)
   | (with_reducible exact ih2 _ _ _ _ _ _ _ _ _ _ _ _ _ _ _ _ _ _ _ _)
   | (with_reducible exact ih3 _ _ _ _ _ _ _ _ _ _ _ _ _ _ _ _ _ _ _)
   | (with_reducible exact ih4 _ _ _ _ _ _ _ _ _ _ _ _ _ _ _ _ _ _ _ _ _ _ _ _ _ _ _ _ _ _ _ _ _ _)
   | (with_reducible exact ridgewayref09_Few.mono _ _)
   | (with_reducible exact route_Best.mono _ _)
   | (with_reducible exact LeO.refl _)
   | (with_reducible exact LeO.none _)
   | (with_reducible refine LeO.ite ?_ ?_)
   | (with_reducible refine LeO.bind ?_ (fun _ => ?_))
   | exact ih0 _ _ _ _
   | exact ih1 _ _ _ _ _ _ _ _ _ _ _ _ _ _ _ _ _ _ _ _
   | exact ih2 _ _ _ _ _ _ _ _ _ _ _ _ _ _ _ _ _ _ _ _
   | exact ih3 _ _ _ _ _ _ _ _ _ _ _ _ _ _ _ _ _ _ _
   | exact ih4 _ _ _ _ _ _ _ _ _ _ _ _ _ _ _ _ _ _ _ _ _ _ _ _ _ _ _ _ _ _ _ _ _ _
   | exact ridgewayref09_Few.mono _ _
   | exact route_Best.mono _ _
   | exact LeO.none _
   | refine LeO.ite ?_ ?_
   | refine LeO.bind ?_ (fun _ => ?_)
  ·intro y0 y1 y2 y3 y4 y5 y6 y7 y8 y9 y10 y11 y12 y13 y14 y15 y16 y17 y18 y19 y20 y21 y22 y23 y24 y25 y26 y27 y28 y29 y30 y31 y32 y33
   unfold ridgewaylaw09_RouteBest.j4
   repeat' first
   | (with_reducible exact ih0 _ _ _ _)
   | (with_reducible exact ih1 _ _ _ _ _ _ _ _ _ _ _ _ _ _ _ _ _ _ _ _)
   | (with_reducible exact ih2 _ _ _ _ _ _ _ _ _ _ _ _ _ _ _ _ _ _ _ _)
   | (with_reducible exact ih3 _ _ _ _ _ _ _ _ _ _ _ _ _ _ _ _ _ _ _)
   | (with_reducible exact ih4 _ _ _ _ _ _ _ _ _ _ _ _ _ _ _ _ _ _ _ _ _ _ _ _ _ _ _ _ _ _ _ _ _ _)
   | (with_reducible exact ridgewayref09_Few.mono _ _)
   | (with_reducible exact route_Best.mono _ _)
   | (with_reducible exact LeO.refl _)
   | (with_reducible exact LeO.none _)
   | (with_reducible refine LeO.ite ?_ ?_)
   | (with_reducible refine LeO.bind ?_ (fun _ => ?_))
   | exact ih0 _ _ _ _
   | exact ih1 _ _ _ _ _ _ _ _ _ _ _ _ _ _ _ _ _ _ _ _
   | exact ih2 _ _ _ _ _ _ _ _ _ _ _ _ _ _ _ _ _ _ _ _
   | exact ih3 _ _ _ _ _ _ _ _ _ _ _ _ _ _ _ _ _ _ _
   | exact ih4 _ _ _ _ _ _ _ _ _ _ _ _ _ _ _ _ _ _ _ _ _ _ _ _ _ _ _ _ _ _ _ _ _ _
   | exact ridgewayref09_Few.mono _ _
   | exact route_Best.mono _ _
   | exact LeO.none _
   | refine LeO.ite ?_ ?_
   | refine LeO.bind ?_ (fun _ => ?_)
theorem ridgewaylaw09_RouteBest.mono : ∀ a0 a1 k, LeO (ridgewaylaw09_RouteBest.f k a0 a1) (ridgewaylaw09_RouteBest.f (k + 1) a0 a1) := by
 intro a0 a1 k
 obtain ⟨ih0, ih1, ih2, ih3, ih4⟩ := ridgewaylaw09_RouteBest.mono_l k
 unfold ridgewaylaw09_RouteBest.f
 repeat' first
   | (with_reducible exact ih0 _ _ _ _)
   | (with_reducible exact ih1 _ _ _ _ _ _ _ _ _ _ _ _ _ _ _ _ _ _ _ _)
   | (with_reducible exact ih2 _ _ _ _ _ _ _ _ _ _ _ _ _ _ _ _ _ _ _ _)
   | (with_reducible exact ih3 _ _ _ _ _ _ _ _ _ _ _ _ _ _ _ _ _ _ _)
   | (with_reducible exact ih4 _ _ _ _ _ _ _ _ _ _ _ _ _ _ _ _ _ _ _ _ _ _ _ _ _ _ _ _ _ _ _ _ _ _)
   | (with_reducible exact ridgewayref09_Few.mono _ _)
   | (with_reducible exact route_Best.mono _ _)
   | (with_reducible exact LeO.refl _)
   | (with_reducible exact LeO.none _)
   | (with_reducible refine LeO.ite ?_ ?_)
   | (with_reducible refine LeO.bind ?_ (fun _ => ?_))
   | exact ih0 _ _ _ _
   | exact ih1 _ _ _ _ _ _ _ _ _ _ _ _ _ _ _ _ _ _ _ _
   | exact ih2 _ _ _ _ _ _ _ _ _ _ _ _ _ _ _ _ _ _ _ _
   | exact ih3 _ _ _ _ _ _ _ _ _ _ _ _ _ _ _ _ _ _ _
   | exact ih4 _ _ _ _ _ _ _ _ _ _ _ _ _ _ _ _ _ _ _ _ _ _ _ _ _ _ _ _ _ _ _ _ _ _
   | exact ridgewayref09_Few.mono _ _
   | exact route_Best.mono _ _
   | exact LeO.none _
   | refine LeO.ite ?_ ?_
   | refine LeO.bind ?_ (fun _ => ?_)
def ridgewaylaw09_RouteBest.T11 : Bool × List (List Nat × List Nat) := (true, [([], []), ([0], [0]), ([1], [1]), ([1], [1]), ([2, 3, 1], [1, 2, 3]), ([4, 1], [1, 4]), ([1], [1]), ([5, 6, 1, 1], [1, 5, 6]), ([1, 7], [1, 7]), ([8, 7, 0, 1, 2, 3, 4, 5, 6, 7, 8], [0, 8])])
def ridgewaylaw09_RouteBest.B11 : List Nat := [0, 1, 3, 3, 15, 31, 3, 127, 255, 511]
theorem ridgewaylaw09_RouteBest.tab11 : rtab .any (opsOf Try.f6 11) = ridgewaylaw09_RouteBest.T11 := by kernel_rfl
theorem ridgewaylaw09_RouteBest.bits11 : waitsOk ridgewaylaw09_RouteBest.T11.2 ridgewaylaw09_RouteBest.B11 = true := by kernel_rfl
set_option maxHeartbeats 8000000 in
set_option maxRecDepth 100000 in
theorem ridgewaylaw09_RouteBest.calls (k : Nat) (P0_ : Nat → Prop) (A0 : Option Addr) (c0 : Nat) (l0 : List (S27)) (P1_ : Nat → Prop) (A1 : Option Addr) (c1 : Nat) (l1 : List (S27)) (r : Bool) (w : World) (hs0 : Kd.V k27 27 w w.heap.size (fun k_ => P0_ k_) (.slice A0 l0.length c0) l0) (hs1 : Kd.V k27 27 w w.heap.size (fun k_ => P1_ k_) (.slice A1 l1.length c1) l1) (h : ridgewaylaw09_RouteBest.f k l0 l1 = some r) :
  Calls Try.prog 6 #[.slice A0 l0.length c0, .slice A1 l1.length c1] w fun e w' => e = .returned (.bool r) ∧ Below w.heap.size w w' := by
 have hu27 := Try.underlying27
 have HO0 := Aside0.mk (show Kd.V k27 27 w w.heap.size (fun k_ => ((P0_ k_ ∨ P1_ k_) ∨ w.heap.size ≤ k_)) (.slice A0 l0.length c0) l0 from Kd.V_mono hs0 (fun k_ hk => .inl (.inl hk)))
 have HO1 := Aside0.mk (show Kd.V k27 27 w w.heap.size (fun k_ => ((P0_ k_ ∨ P1_ k_) ∨ w.heap.size ≤ k_)) (.slice A1 l1.length c1) l1 from Kd.V_mono hs1 (fun k_ hk => .inl (.inr hk)))
 have HB := Aside0.mk (Below.refl w.heap.size w)
 have H : ((ridgewaylaw09_awake.f).bind fun t312 => ((ridgewayref09_Few.f k l0).bind fun t313 => (if t313 = true then ((ridgewayref09_Few.f k l1).bind fun t314 => (ridgewaylaw09_RouteBest.j0 k l0 l1 t312 (!t314))) else (ridgewaylaw09_RouteBest.j0 k l0 l1 t312 true)))) = some r := h
 clear h
 replace H := Option.bind_eq_some_iff.mp H
 obtain ⟨t312, A30, H⟩ := H
 replace H : ((ridgewayref09_Few.f k l0).bind fun t313 => (if t313 = true then ((ridgewayref09_Few.f k l1).bind fun t314 => (ridgewaylaw09_RouteBest.j0 k l0 l1 t312 (!t314))) else (ridgewaylaw09_RouteBest.j0 k l0 l1 t312 true))) = some r := H
 have A3 := Aside0.mk A30
 clear A30
 have HC4 := Aside0.mk H
 clear H
 go_enter Try.func6, Try.ntmps6
 go_upto_region 2 with (first | ((with_reducible refine gate_callee (f := 8) rfl ?_); refine goesL_ (some 19) rfl rfl Try.func8 (by kernel_rfl) rfl #[] rfl (by (try simp only [List.map_toArray, List.map_cons, List.map_nil]); first | done | rfl | (simp only [List.length_drop, List.length_take]; rfl)) ?_; (with_reducible refine (ridgewaylaw09_awake.calls  t312 _ A3.out).mono ?_); rintro e w5 ⟨rfl, hb⟩; refine ⟨_, rfl, ?_⟩; have n0_ := Aside0.mk (Kd.V_below (by (with_reducible repeat first|apply vA6|apply vN6|apply vD6); exact HO0.out) hb); have n1_ := Aside0.mk (Kd.V_below (by (with_reducible repeat first|apply vA6|apply vN6|apply vD6); exact HO1.out) hb); have n2_ := Aside0.mk (below_step (by repeat (first | (with_reducible first | exact HB.out | apply below_alloc | apply pw_below_drewN | apply below_drew1) | exact HB.out)) hb); clear HO0; clear HO1; clear HB; have HO0 := n0_; have HO1 := n1_; have HB := n2_; clear n0_ n1_ n2_; (try clear hb); (try clear hb2); (try clear hk); (try clear hi)))
 (try simp only [Act.put, List.setIfInBounds_toArray, List.set_cons_zero, List.set_cons_succ])
 go_cut [27] (fun v27 wc => ∃ (kq : Nat) (x27_3 : Bool), v27 = .bool x27_3 ∧ Aside0 (ridgewaylaw09_RouteBest.j0 kq l0 l1 t312 x27_3 = some r) ∧ Aside0 (kq ≤ k) ∧ Aside0 (Kd.V k27 27 wc w.heap.size (fun k_ => ((P0_ k_ ∨ P1_ k_) ∨ w.heap.size ≤ k_)) (.slice A0 l0.length c0) l0) ∧ Aside0 (Kd.V k27 27 wc w.heap.size (fun k_ => ((P0_ k_ ∨ P1_ k_) ∨ w.heap.size ≤ k_)) (.slice A1 l1.length c1) l1) ∧ Aside0 (Below w.heap.size w wc))
 case first =>
  have H := HC4.out
  clear HC4
  replace H := Option.bind_eq_some_iff.mp H
  obtain ⟨t313, A60, H⟩ := H
  replace H : (if t313 = true then ((ridgewayref09_Few.f k l1).bind fun t314 => (ridgewaylaw09_RouteBest.j0 k l0 l1 t312 (!t314))) else (ridgewaylaw09_RouteBest.j0 k l0 l1 t312 true)) = some r := H
  have A6 := Aside0.mk A60
  clear A60
  by_cases c7 : t313 = true
  ·subst c7
   have H1 : ((ridgewayref09_Few.f k l1).bind fun t314 => (ridgewaylaw09_RouteBest.j0 k l0 l1 t312 (!t314))) = some r := by rw [if_pos rfl] at H; exact H
   clear H
   have H := H1
   clear H1
   replace H := Option.bind_eq_some_iff.mp H
   obtain ⟨t314, A80, H⟩ := H
   replace H : (ridgewaylaw09_RouteBest.j0 k l0 l1 t312 (!t314)) = some r := H
   have A8 := Aside0.mk A80
   clear A80
   have H' := Aside0.mk H
   clear H
   go_wp2_with (first | ((with_reducible refine gate_callee (f := 9) rfl ?_); refine goesL_ (some 21) rfl rfl Try.func9 (by kernel_rfl) rfl #[.slice A0 l0.length c0] rfl (by (try simp only [List.map_toArray, List.map_cons, List.map_nil]); first | done | rfl | (simp only [List.length_drop, List.length_take]; rfl)) ?_; (with_reducible refine (ridgewayref09_Few.calls k _ _ l0 true _ ?side1 ?side2 A6.out).mono ?_); (case side1 => repeat (first | exact (Kd.V_reads' HO0.out).2.2 | (with_reducible refine Kd.C_alloc ?_ _) | (with_reducible refine Kd.C_drewN ?_ _) | (with_reducible refine Kd.C_drew ?_))); (case side2 => exact (Kd.V_reads' HO0.out).2.1); rintro e w' ⟨rfl, ⟨nd, rfl⟩⟩; refine ⟨_, rfl, ?_⟩) | (go_at_call 9; (with_reducible refine (ridgewayref09_Few.calls k _ _ l1 t314 _ ?side1 ?side2 A8.out).mono ?_); (case side1 => repeat (first | exact (Kd.V_reads' HO1.out).2.2 | (with_reducible refine Kd.C_alloc ?_ _) | (with_reducible refine Kd.C_drewN ?_ _) | (with_reducible refine Kd.C_drew ?_))); (case side2 => exact (Kd.V_reads' HO1.out).2.1); rintro e w' ⟨rfl, ⟨nd, rfl⟩⟩))
   go_meet
   case rel => exact ⟨_, (!t314), (by first | rfl | (simp; done) | (simp [*]; done)), H', ⟨by first | omega | exact Nat.le_refl _⟩, ⟨by (with_reducible repeat first|apply vA6|apply vN6|apply vD6); exact HO0.out⟩, ⟨by (with_reducible repeat first|apply vA6|apply vN6|apply vD6); exact HO1.out⟩, ⟨by repeat (first | (with_reducible first | exact HB.out | apply below_alloc | apply pw_below_drewN | apply below_drew1) | exact HB.out)⟩⟩
  ·replace c7 := Bool.eq_false_iff.mpr c7
   subst c7
   have H1 : (ridgewaylaw09_RouteBest.j0 k l0 l1 t312 true) = some r := by rw [if_neg (show ¬ (false = true) by decide)] at H; exact H
   clear H
   have H := H1
   clear H1
   have H' := Aside0.mk H
   clear H
   go_wp2_with (first | ((with_reducible refine gate_callee (f := 9) rfl ?_); refine goesL_ (some 21) rfl rfl Try.func9 (by kernel_rfl) rfl #[.slice A0 l0.length c0] rfl (by (try simp only [List.map_toArray, List.map_cons, List.map_nil]); first | done | rfl | (simp only [List.length_drop, List.length_take]; rfl)) ?_; (with_reducible refine (ridgewayref09_Few.calls k _ _ l0 false _ ?side1 ?side2 A6.out).mono ?_); (case side1 => repeat (first | exact (Kd.V_reads' HO0.out).2.2 | (with_reducible refine Kd.C_alloc ?_ _) | (with_reducible refine Kd.C_drewN ?_ _) | (with_reducible refine Kd.C_drew ?_))); (case side2 => exact (Kd.V_reads' HO0.out).2.1); rintro e w' ⟨rfl, ⟨nd, rfl⟩⟩; refine ⟨_, rfl, ?_⟩))
   go_meet
   case rel => exact ⟨_, (true), (by first | rfl | (simp; done) | (simp [*]; done)), H', ⟨by first | omega | exact Nat.le_refl _⟩, ⟨by (with_reducible repeat first|apply vA6|apply vN6|apply vD6); exact HO0.out⟩, ⟨by (with_reducible repeat first|apply vA6|apply vN6|apply vD6); exact HO1.out⟩, ⟨by repeat (first | (with_reducible first | exact HB.out | apply below_alloc | apply pw_below_drewN | apply below_drew1) | exact HB.out)⟩⟩
 case rest =>
  clear HC4
  try clear c1
  try clear p2
  try clear c6
  try clear c7
  try clear c8
  obtain ⟨kq, x27_3, rfl, HA, HJ3, HO_0, HO_1, HB⟩ := hcut
  cases kq with
  | zero => exact absurd HA.out (by simp [ridgewaylaw09_RouteBest.j0])
  | succ kj3 =>
   have H := HA.out
   clear HA
   simp only [ridgewaylaw09_RouteBest.j0] at H
   by_cases c9 : x27_3 = true
   ·subst c9
    have H1 : (some t312) = some r := by rw [if_pos rfl] at H; exact H
    clear H
    have H := H1
    clear H1
    obtain rfl := Option.some.inj H
    go_wp2
    go_ret
    exact ⟨by first | rfl | (simp [errW_none, errW_some] <;> rfl) | (simp [*, errW_none, errW_some] <;> rfl), by repeat (first | (with_reducible first | exact HB.out | apply below_alloc | apply pw_below_drewN | apply below_drew1) | exact HB.out)⟩
   ·replace c9 := Bool.eq_false_iff.mpr c9
    subst c9
    have H1 : ((route_Best.f kj3 l0).bind fun bt315 => ((route_Best.f kj3 l1).bind fun bt325 => (ridgewaylaw09_RouteBest.l0 kj3 l0 l1 t312 bt315.2.2.2.2.2.2 bt325.2.2.2.2.2.2 false ([] : List (S27)) (wrap64 ((l0.length : Int) - 1)) bt315.1 bt315.2.1 bt315.2.2.1 bt315.2.2.2.1 bt315.2.2.2.2.1 bt315.2.2.2.2.2.1 bt325.1 bt325.2.1 bt325.2.2.1 bt325.2.2.2.1 bt325.2.2.2.2.1 bt325.2.2.2.2.2.1))) = some r := by rw [if_neg (show ¬ (false = true) by decide)] at H; exact H
    clear H
    have H := H1
    clear H1
    replace H := Option.bind_eq_some_iff.mp H
    obtain ⟨⟨t315, t316, t317, t320, t321, t322, t323⟩, A100, H⟩ := H
    replace H : ((route_Best.f kj3 l1).bind fun bt325 => (ridgewaylaw09_RouteBest.l0 kj3 l0 l1 t312 t323 bt325.2.2.2.2.2.2 false ([] : List (S27)) (wrap64 ((l0.length : Int) - 1)) t315 t316 t317 t320 t321 t322 bt325.1 bt325.2.1 bt325.2.2.1 bt325.2.2.2.1 bt325.2.2.2.2.1 bt325.2.2.2.2.2.1)) = some r := H
    have A10 := Aside0.mk A100
    clear A100
    replace H := Option.bind_eq_some_iff.mp H
    obtain ⟨⟨t325, t326, t327, t330, t331, t332, t333⟩, A110, H⟩ := H
    replace H : (ridgewaylaw09_RouteBest.l0 kj3 l0 l1 t312 t323 t333 false ([] : List (S27)) (wrap64 ((l0.length : Int) - 1)) t315 t316 t317 t320 t321 t322 t325 t326 t327 t330 t331 t332) = some r := H
    have A11 := Aside0.mk A110
    clear A110
    have H' := Aside0.mk H
    clear H
    go_wp2_with (first | ((with_reducible refine gate_callee (f := 16) rfl ?_); refine goesL_ (some 31) rfl rfl Try.func16 (by kernel_rfl) rfl #[.slice A0 l0.length c0] rfl (by (try simp only [List.map_toArray, List.map_cons, List.map_nil]); first | done | rfl | (simp only [List.length_drop, List.length_take]; rfl)) ?_; (with_reducible refine (route_Best.calls kj3 (fun k_ => ((P0_ k_ ∨ P1_ k_) ∨ w.heap.size ≤ k_)) _ _ l0 t315 t316 t317 t320 t321 t322 t323 _ ?side1 A10.out).mono ?_); (case side1 => exact HO_0.out); rintro e w12 ⟨v318, rfl, ho0, hb⟩; refine ⟨_, rfl, ?_⟩; have n0_ := Aside0.mk (Kd.V_below (by (with_reducible repeat first|apply vA6|apply vN6|apply vD6); exact HO_0.out) hb); have n1_ := Aside0.mk (Kd.V_below (by (with_reducible repeat first|apply vA6|apply vN6|apply vD6); exact HO_1.out) hb); have n2_ := Aside0.mk (Kd.V_lower (Kd.V_mono (ok' := fun k_ => ((P0_ k_ ∨ P1_ k_) ∨ w.heap.size ≤ k_)) ho0 (fun k_ hk_ => Or.elim hk_ (fun hs_ => hs_) (fun hn_ => (.inr (Nat.le_trans (below_size (by repeat (first | (with_reducible first | exact HB.out | apply below_alloc | apply pw_below_drewN | apply below_drew1) | exact HB.out))) hn_))))) (below_size (by repeat (first | (with_reducible first | exact HB.out | apply below_alloc | apply pw_below_drewN | apply below_drew1) | exact HB.out)))); have n3_ := Aside0.mk (below_step (by repeat (first | (with_reducible first | exact HB.out | apply below_alloc | apply pw_below_drewN | apply below_drew1) | exact HB.out)) hb); clear HO_0; clear HO_1; clear HB; have HO_0 := n0_; have HO_1 := n1_; have HO319 := n2_; have HB := n3_; clear n0_ n1_ n2_ n3_; (try clear hb); (try clear hb2); (try clear hk); (try clear hi); (try clear ho0)) | ((with_reducible refine gate_dst (N := 6) rfl ?_); refine box_event ?hg (N := 6) ?hd (cs := #[.int .i64 0, .int .i64 0, .slice none 0 0, .int .i64 0, .int .i64 0, .int .i64 0]) (t := 27) ?hr ?_; (case hd => rfl); (case hg => rfl); (case hr => first | (go_simp; done) | (go_simp; rfl)); intro gb324 hg w13 hbox hb; have n0_ := Aside0.mk (Kd.V_below (Kd.V_elderB (by (with_reducible repeat first|apply vA6|apply vN6|apply vD6); exact HO_0.out) gb324 (Nat.le_of_eq hg.symm)) hb); have n1_ := Aside0.mk (Kd.V_below (Kd.V_elderB (by (with_reducible repeat first|apply vA6|apply vN6|apply vD6); exact HO_1.out) gb324 (Nat.le_of_eq hg.symm)) hb); have n2_ := Aside0.mk (Kd.V_below (Kd.V_elderB (by (with_reducible repeat first|apply vA6|apply vN6|apply vD6); exact HO319.out) gb324 (Nat.le_of_eq hg.symm)) hb); have n3_ := Aside0.mk (below_step (by repeat (first | (with_reducible first | exact HB.out | apply below_alloc | apply pw_below_drewN | apply below_drew1) | exact HB.out)) hb); have n4_ := Aside0.mk (hbox); have n5_ := Aside0.mk ((by rw [hg]; exact (below_size (by repeat (first | (with_reducible first | exact HB.out | apply below_alloc | apply pw_below_drewN | apply below_drew1) | exact HB.out))) : w.heap.size ≤ gb324)); have n6_ := Aside0.mk ((by rw [hg]; exact (below_size (by repeat (first | (with_reducible first | exact HB.out | apply below_alloc | apply pw_below_drewN | apply below_drew1) | exact HB.out))) : w.heap.size ≤ gb324)); clear HO_0; clear HO_1; clear HO319; clear HB; have HO_0 := n0_; have HO_1 := n1_; have HO319 := n2_; have HB := n3_; have BK324 := n4_; have GW324 := n5_; have GE324 := n6_; clear n0_ n1_ n2_ n3_ n4_ n5_ n6_; clear hb hbox hg; have hcz14_0 : w13.cell? ⟨gb324, 0, none⟩ = some (.int .i64 0) := (blk_cell BK324.out 0).trans rfl; have hcz14_1 : w13.cell? ⟨gb324, 1, none⟩ = some (.int .i64 0) := (blk_cell BK324.out 1).trans rfl; have hcz14_2 : w13.cell? ⟨gb324, 2, none⟩ = some (.slice none 0 0) := (blk_cell BK324.out 2).trans rfl; have hcz14_3 : w13.cell? ⟨gb324, 3, none⟩ = some (.int .i64 0) := (blk_cell BK324.out 3).trans rfl; have hcz14_4 : w13.cell? ⟨gb324, 4, none⟩ = some (.int .i64 0) := (blk_cell BK324.out 4).trans rfl; have hcz14_5 : w13.cell? ⟨gb324, 5, none⟩ = some (.int .i64 0) := (blk_cell BK324.out 5).trans rfl; have hfz14_0 := blk_frozen BK324.out 0; have hfz14_1 := blk_frozen BK324.out 1; have hfz14_2 := blk_frozen BK324.out 2; have hfz14_3 := blk_frozen BK324.out 3; have hfz14_4 := blk_frozen BK324.out 4; have hfz14_5 := blk_frozen BK324.out 5; obtain ⟨Ao15, co15, eo15⟩ := Kd.V_slice HO319.out; subst eo15) | ((with_reducible refine gate_store (t := 27) (p := 6) rfl ?_); refine store_event (t := 27) (p := 6) (v := ?vo_w16) (w1 := ((((((w13.setCell ⟨gb324, 0, none⟩ (.int .i64 t315)).setCell ⟨gb324, 1, none⟩ (.int .i64 t316)).setCell ⟨gb324, 2, none⟩ (.slice Ao15 t317.length co15)).setCell ⟨gb324, 3, none⟩ (.int .i64 t320)).setCell ⟨gb324, 4, none⟩ (.int .i64 t321)).setCell ⟨gb324, 5, none⟩ (.int .i64 t322))) ?hg ?ho ?hn ?hr ?_; (case ho => rfl); (case hg => rfl); (case hn => rfl); (case hr => first | (go_simp; done) | (go_simp; rfl)); intro w16 hw; have n0_ : Aside0 (Kd.V k27 27 w16 w.heap.size (fun k_ => ((P0_ k_ ∨ P1_ k_) ∨ w.heap.size ≤ k_) ∧ k_ ≠ gb324) (.slice A0 l0.length c0) l0) := ⟨(by rw [hw]; exact (by (with_reducible repeat first|apply vA6|apply vN6|apply vD6); exact Kd.V_mono (Kd.V_far (p := ⟨gb324, 5, none⟩) (Kd.V_far (p := ⟨gb324, 4, none⟩) (Kd.V_far (p := ⟨gb324, 3, none⟩) (Kd.V_far (p := ⟨gb324, 2, none⟩) (Kd.V_far (p := ⟨gb324, 1, none⟩) (Kd.V_far (p := ⟨gb324, 0, none⟩) (Kd.V_mono HO_0.out (fun k_ hk => (⟨hk, hk.2⟩ : _ ∧ k_ ≠ gb324))) (fun _ hk => hk.2) (.int .i64 t315)) (fun _ hk => hk.2) (.int .i64 t316)) (fun _ hk => hk.2) (.slice Ao15 t317.length co15)) (fun _ hk => hk.2) (.int .i64 t320)) (fun _ hk => hk.2) (.int .i64 t321)) (fun _ hk => hk.2) (.int .i64 t322)) (fun _ hk => ⟨hk.1.1, hk.1.2⟩)))⟩; have n1_ : Aside0 (Kd.V k27 27 w16 w.heap.size (fun k_ => ((P0_ k_ ∨ P1_ k_) ∨ w.heap.size ≤ k_) ∧ k_ ≠ gb324) (.slice A1 l1.length c1) l1) := ⟨(by rw [hw]; exact (by (with_reducible repeat first|apply vA6|apply vN6|apply vD6); exact Kd.V_mono (Kd.V_far (p := ⟨gb324, 5, none⟩) (Kd.V_far (p := ⟨gb324, 4, none⟩) (Kd.V_far (p := ⟨gb324, 3, none⟩) (Kd.V_far (p := ⟨gb324, 2, none⟩) (Kd.V_far (p := ⟨gb324, 1, none⟩) (Kd.V_far (p := ⟨gb324, 0, none⟩) (Kd.V_mono HO_1.out (fun k_ hk => (⟨hk, hk.2⟩ : _ ∧ k_ ≠ gb324))) (fun _ hk => hk.2) (.int .i64 t315)) (fun _ hk => hk.2) (.int .i64 t316)) (fun _ hk => hk.2) (.slice Ao15 t317.length co15)) (fun _ hk => hk.2) (.int .i64 t320)) (fun _ hk => hk.2) (.int .i64 t321)) (fun _ hk => hk.2) (.int .i64 t322)) (fun _ hk => ⟨hk.1.1, hk.1.2⟩)))⟩; have n2_ : Aside0 (Kd.V (Kd.int .i64) 3 w16 w.heap.size (fun k_ => ((P0_ k_ ∨ P1_ k_) ∨ w.heap.size ≤ k_) ∧ k_ ≠ gb324) (.slice Ao15 t317.length co15) t317) := ⟨(by rw [hw]; exact (by (with_reducible repeat first|apply vA6|apply vN6|apply vD6); exact Kd.V_mono (Kd.V_far (p := ⟨gb324, 5, none⟩) (Kd.V_far (p := ⟨gb324, 4, none⟩) (Kd.V_far (p := ⟨gb324, 3, none⟩) (Kd.V_far (p := ⟨gb324, 2, none⟩) (Kd.V_far (p := ⟨gb324, 1, none⟩) (Kd.V_far (p := ⟨gb324, 0, none⟩) (Kd.V_mono HO319.out (fun k_ hk => (⟨hk, hk.2⟩ : _ ∧ k_ ≠ gb324))) (fun _ hk => hk.2) (.int .i64 t315)) (fun _ hk => hk.2) (.int .i64 t316)) (fun _ hk => hk.2) (.slice Ao15 t317.length co15)) (fun _ hk => hk.2) (.int .i64 t320)) (fun _ hk => hk.2) (.int .i64 t321)) (fun _ hk => hk.2) (.int .i64 t322)) (fun _ hk => ⟨hk.1.1, hk.1.2⟩)))⟩; have n3_ : Aside0 (w16.heap[gb324]? = some (.cells #[.int .i64 t315, .int .i64 t316, .slice Ao15 t317.length co15, .int .i64 t320, .int .i64 t321, .int .i64 t322] 27 (0, 0))) := ⟨(by rw [hw]; exact (by (with_reducible repeat first|apply zN6|apply zD6|apply zA6); refine blk_put (cs := #[.int .i64 t315, .int .i64 t316, .slice Ao15 t317.length co15, .int .i64 t320, .int .i64 t321, .int .i64 0]) ?_ 5 _ rfl; (with_reducible repeat first|apply zN6|apply zD6|apply zA6); refine blk_put (cs := #[.int .i64 t315, .int .i64 t316, .slice Ao15 t317.length co15, .int .i64 t320, .int .i64 0, .int .i64 0]) ?_ 4 _ rfl; (with_reducible repeat first|apply zN6|apply zD6|apply zA6); refine blk_put (cs := #[.int .i64 t315, .int .i64 t316, .slice Ao15 t317.length co15, .int .i64 0, .int .i64 0, .int .i64 0]) ?_ 3 _ rfl; (with_reducible repeat first|apply zN6|apply zD6|apply zA6); refine blk_put (cs := #[.int .i64 t315, .int .i64 t316, .slice none 0 0, .int .i64 0, .int .i64 0, .int .i64 0]) ?_ 2 _ rfl; (with_reducible repeat first|apply zN6|apply zD6|apply zA6); refine blk_put (cs := #[.int .i64 t315, .int .i64 0, .slice none 0 0, .int .i64 0, .int .i64 0, .int .i64 0]) ?_ 1 _ rfl; (with_reducible repeat first|apply zN6|apply zD6|apply zA6); refine blk_put (cs := #[.int .i64 0, .int .i64 0, .slice none 0 0, .int .i64 0, .int .i64 0, .int .i64 0]) ?_ 0 _ rfl; (with_reducible repeat first|apply zN6|apply zD6|apply zA6); exact BK324.out))⟩; have n4_ : Aside0 (Below w.heap.size w w16) := ⟨(by rw [hw]; exact (by repeat (first | (with_reducible first | exact HB.out | apply below_alloc | apply pw_below_drewN | apply below_drew1 | refine below_set ?_ GE324.out) | exact HB.out)))⟩; clear hw; clear HO_0; clear HO_1; clear HO319; clear BK324; clear HB; have HO_0 := n0_; have HO_1 := n1_; have HO319 := n2_; have BK324 := n3_; have HB := n4_; clear n0_ n1_ n2_ n3_ n4_) | ((with_reducible refine gate_callee (f := 16) rfl ?_); refine goesL_ (some 36) rfl rfl Try.func16 (by kernel_rfl) rfl #[.slice A1 l1.length c1] rfl (by (try simp only [List.map_toArray, List.map_cons, List.map_nil]); first | done | rfl | (simp only [List.length_drop, List.length_take]; rfl)) ?_; (with_reducible refine (route_Best.calls kj3 (fun k_ => (((P0_ k_ ∨ P1_ k_) ∨ w.heap.size ≤ k_) ∧ k_ ≠ gb324)) _ _ l1 t325 t326 t327 t330 t331 t332 t333 _ ?side1 A11.out).mono ?_); (case side1 => exact HO_1.out); rintro e w17 ⟨v328, rfl, ho0, hb⟩; refine ⟨_, rfl, ?_⟩; have n0_ := Aside0.mk (Kd.V_below (by (with_reducible repeat first|apply vA6|apply vN6|apply vD6); exact HO_0.out) hb); have n1_ := Aside0.mk (Kd.V_below (by (with_reducible repeat first|apply vA6|apply vN6|apply vD6); exact HO_1.out) hb); have n2_ := Aside0.mk (Kd.V_below (by (with_reducible repeat first|apply vA6|apply vN6|apply vD6); exact HO319.out) hb); have n3_ := Aside0.mk (Kd.V_lower (Kd.V_mono (ok' := fun k_ => ((P0_ k_ ∨ P1_ k_) ∨ w.heap.size ≤ k_) ∧ k_ ≠ gb324) ho0 (fun k_ hk_ => ⟨Or.elim hk_ (fun hs_ => hs_.1) (fun hn_ => (.inr (Nat.le_trans (below_size (by repeat (first | (with_reducible first | exact HB.out | apply below_alloc | apply pw_below_drewN | apply below_drew1 | refine below_set ?_ GE324.out) | exact HB.out))) hn_))), Or.elim hk_ (fun hs_ => hs_.2) (fun hn_ => (Kd.freshB (g := gb324) (o := .cells #[.int .i64 t315, .int .i64 t316, .slice Ao15 t317.length co15, .int .i64 t320, .int .i64 t321, .int .i64 t322] 27 (0, 0)) (by (with_reducible repeat first|apply zN6|apply zD6|apply zA6); exact BK324.out) k_ hn_))⟩)) (below_size (by repeat (first | (with_reducible first | exact HB.out | apply below_alloc | apply pw_below_drewN | apply below_drew1 | refine below_set ?_ GE324.out) | exact HB.out)))); have n4_ := Aside0.mk (blk_below (g := gb324) (o := .cells #[.int .i64 t315, .int .i64 t316, .slice Ao15 t317.length co15, .int .i64 t320, .int .i64 t321, .int .i64 t322] 27 (0, 0)) (by (with_reducible repeat first|apply zN6|apply zD6|apply zA6); exact BK324.out) hb); have n5_ := Aside0.mk (below_step (by repeat (first | (with_reducible first | exact HB.out | apply below_alloc | apply pw_below_drewN | apply below_drew1 | refine below_set ?_ GE324.out) | exact HB.out)) hb); clear HO_0; clear HO_1; clear HO319; clear BK324; clear HB; have HO_0 := n0_; have HO_1 := n1_; have HO319 := n2_; have HO329 := n3_; have BK324 := n4_; have HB := n5_; clear n0_ n1_ n2_ n3_ n4_ n5_; (try clear hb); (try clear hb2); (try clear hk); (try clear hi); (try clear ho0)) | ((with_reducible refine gate_dst (N := 8) rfl ?_); refine box_event ?hg (N := 8) ?hd (cs := #[.int .i64 0, .int .i64 0, .slice none 0 0, .int .i64 0, .int .i64 0, .int .i64 0]) (t := 27) ?hr ?_; (case hd => rfl); (case hg => rfl); (case hr => first | (go_simp; done) | (go_simp; rfl)); intro gb334 hg w18 hbox hb; have n0_ := Aside0.mk (Kd.V_below (Kd.V_elderB (by (with_reducible repeat first|apply vA6|apply vN6|apply vD6); exact HO_0.out) gb334 (Nat.le_of_eq hg.symm)) hb); have n1_ := Aside0.mk (Kd.V_below (Kd.V_elderB (by (with_reducible repeat first|apply vA6|apply vN6|apply vD6); exact HO_1.out) gb334 (Nat.le_of_eq hg.symm)) hb); have n2_ := Aside0.mk (Kd.V_below (Kd.V_elderB (by (with_reducible repeat first|apply vA6|apply vN6|apply vD6); exact HO319.out) gb334 (Nat.le_of_eq hg.symm)) hb); have n3_ := Aside0.mk (Kd.V_below (Kd.V_elderB (by (with_reducible repeat first|apply vA6|apply vN6|apply vD6); exact HO329.out) gb334 (Nat.le_of_eq hg.symm)) hb); have n4_ := Aside0.mk (blk_below (g := gb324) (o := .cells #[.int .i64 t315, .int .i64 t316, .slice Ao15 t317.length co15, .int .i64 t320, .int .i64 t321, .int .i64 t322] 27 (0, 0)) (by (with_reducible repeat first|apply zN6|apply zD6|apply zA6); exact BK324.out) hb); have n5_ := Aside0.mk (below_step (by repeat (first | (with_reducible first | exact HB.out | apply below_alloc | apply pw_below_drewN | apply below_drew1 | refine below_set ?_ GE324.out) | exact HB.out)) hb); have n6_ := Aside0.mk (hbox); have n7_ := Aside0.mk ((by rw [hg]; exact (below_size (by repeat (first | (with_reducible first | exact HB.out | apply below_alloc | apply pw_below_drewN | apply below_drew1 | refine below_set ?_ GE324.out) | exact HB.out))) : w.heap.size ≤ gb334)); have n8_ := Aside0.mk ((by rw [hg]; exact (below_size (by repeat (first | (with_reducible first | exact HB.out | apply below_alloc | apply pw_below_drewN | apply below_drew1 | refine below_set ?_ GE324.out) | exact HB.out))) : w.heap.size ≤ gb334)); have n9_ := Aside0.mk ((by rw [hg]; exact Nat.ne_of_lt (blk_lt (g := gb324) (o := .cells #[.int .i64 t315, .int .i64 t316, .slice Ao15 t317.length co15, .int .i64 t320, .int .i64 t321, .int .i64 t322] 27 (0, 0)) (by (with_reducible repeat first|apply zN6|apply zD6|apply zA6); exact BK324.out)) : gb324 ≠ gb334)); have n10_ := Aside0.mk ((by rw [hg]; exact Nat.ne_of_gt (blk_lt (g := gb324) (o := .cells #[.int .i64 t315, .int .i64 t316, .slice Ao15 t317.length co15, .int .i64 t320, .int .i64 t321, .int .i64 t322] 27 (0, 0)) (by (with_reducible repeat first|apply zN6|apply zD6|apply zA6); exact BK324.out)) : gb334 ≠ gb324)); clear HO_0; clear HO_1; clear HO319; clear HO329; clear BK324; clear HB; have HO_0 := n0_; have HO_1 := n1_; have HO319 := n2_; have HO329 := n3_; have BK324 := n4_; have HB := n5_; have BK334 := n6_; have GW334 := n7_; have GE334 := n8_; have NB324_334 := n9_; have NB334_324 := n10_; clear n0_ n1_ n2_ n3_ n4_ n5_ n6_ n7_ n8_ n9_ n10_; clear hb hbox hg; have hnb19 := NB334_324.out; have hnc19 := NB324_334.out; have hcz20_0 : w18.cell? ⟨gb334, 0, none⟩ = some (.int .i64 0) := (blk_cell BK334.out 0).trans rfl; have hcz20_1 : w18.cell? ⟨gb334, 1, none⟩ = some (.int .i64 0) := (blk_cell BK334.out 1).trans rfl; have hcz20_2 : w18.cell? ⟨gb334, 2, none⟩ = some (.slice none 0 0) := (blk_cell BK334.out 2).trans rfl; have hcz20_3 : w18.cell? ⟨gb334, 3, none⟩ = some (.int .i64 0) := (blk_cell BK334.out 3).trans rfl; have hcz20_4 : w18.cell? ⟨gb334, 4, none⟩ = some (.int .i64 0) := (blk_cell BK334.out 4).trans rfl; have hcz20_5 : w18.cell? ⟨gb334, 5, none⟩ = some (.int .i64 0) := (blk_cell BK334.out 5).trans rfl; have hfz20_0 := blk_frozen BK334.out 0; have hfz20_1 := blk_frozen BK334.out 1; have hfz20_2 := blk_frozen BK334.out 2; have hfz20_3 := blk_frozen BK334.out 3; have hfz20_4 := blk_frozen BK334.out 4; have hfz20_5 := blk_frozen BK334.out 5; obtain ⟨Ao21, co21, eo21⟩ := Kd.V_slice HO329.out; subst eo21))
    go_loopg [10, 11, 12] kj3 (fun kq v10 v11 v12 w' => ∃ (x10_2 : Bool) (x11_2 : List (S27)) (x12_2 : Int), v10 = .bool x10_2 ∧ v12 = .int .i64 x12_2 ∧ Aside0 (ridgewaylaw09_RouteBest.l0 kq l0 l1 t312 t323 t333 x10_2 x11_2 x12_2 t315 t316 t317 t320 t321 t322 t325 t326 t327 t330 t331 t332 = some r) ∧ Aside0 (kq ≤ kj3) ∧ Aside0 (Kd.V k27 27 w' w.heap.size (fun k_ => ((P0_ k_ ∨ P1_ k_) ∨ w.heap.size ≤ k_) ∧ some k_ ≠ (v11 : Value).ownBlock ∧ k_ ≠ gb324 ∧ k_ ≠ gb334) (.slice A0 l0.length c0) l0) ∧ Aside0 (Kd.V k27 27 w' w.heap.size (fun k_ => ((P0_ k_ ∨ P1_ k_) ∨ w.heap.size ≤ k_) ∧ some k_ ≠ (v11 : Value).ownBlock ∧ k_ ≠ gb324 ∧ k_ ≠ gb334) (.slice A1 l1.length c1) l1) ∧ Aside0 (Kd.N k27 27 w' w.heap.size (fun k_ => ((P0_ k_ ∨ P1_ k_) ∨ w.heap.size ≤ k_) ∧ k_ ≠ gb324 ∧ k_ ≠ gb334) v11 x11_2) ∧ Aside0 (Kd.V (Kd.int .i64) 3 w' w.heap.size (fun k_ => ((P0_ k_ ∨ P1_ k_) ∨ w.heap.size ≤ k_) ∧ some k_ ≠ (v11 : Value).ownBlock ∧ k_ ≠ gb324 ∧ k_ ≠ gb334) (.slice Ao15 t317.length co15) t317) ∧ Aside0 (Kd.V (Kd.int .i64) 3 w' w.heap.size (fun k_ => ((P0_ k_ ∨ P1_ k_) ∨ w.heap.size ≤ k_) ∧ some k_ ≠ (v11 : Value).ownBlock ∧ k_ ≠ gb324 ∧ k_ ≠ gb334) (.slice Ao21 t327.length co21) t327) ∧ Aside0 (w'.heap[gb324]? = some (.cells #[.int .i64 t315, .int .i64 t316, (.slice Ao15 t317.length co15), .int .i64 t320, .int .i64 t321, .int .i64 t322] 27 (0, 0))) ∧ Aside0 (w'.heap[gb334]? = some (.cells #[.int .i64 t325, .int .i64 t326, (.slice Ao21 t327.length co21), .int .i64 t330, .int .i64 t331, .int .i64 t332] 27 (0, 0))) ∧ Aside0 (Below w.heap.size w w'))
    case atStart => exact ⟨(false), (([] : List (S27))), (wrap64 ((l0.length : Int) - 1)), (by first | rfl | (simp; done) | (simp [*]; done)), (by first | rfl | (simp; done) | (simp [*]; done)), H', ⟨Nat.le_refl _⟩, ⟨by (with_reducible repeat first|apply vA6|apply vN6|apply vD6); exact Kd.V_mono (Kd.V_far (p := ⟨gb334, 5, none⟩) (Kd.V_far (p := ⟨gb334, 4, none⟩) (Kd.V_far (p := ⟨gb334, 3, none⟩) (Kd.V_far (p := ⟨gb334, 2, none⟩) (Kd.V_far (p := ⟨gb334, 1, none⟩) (Kd.V_far (p := ⟨gb334, 0, none⟩) (Kd.V_mono HO_0.out (fun k_ hk => (⟨hk, hk.2⟩ : _ ∧ k_ ≠ gb334))) (fun _ hk => hk.2) (.int .i64 t325)) (fun _ hk => hk.2) (.int .i64 t326)) (fun _ hk => hk.2) (.slice Ao21 t327.length co21)) (fun _ hk => hk.2) (.int .i64 t330)) (fun _ hk => hk.2) (.int .i64 t331)) (fun _ hk => hk.2) (.int .i64 t332)) (fun _ hk => ⟨hk.1.1.1, ⟨(by simp [Value.ownBlock]), ⟨hk.1.1.2, hk.1.2⟩⟩⟩)⟩, ⟨by (with_reducible repeat first|apply vA6|apply vN6|apply vD6); exact Kd.V_mono (Kd.V_far (p := ⟨gb334, 5, none⟩) (Kd.V_far (p := ⟨gb334, 4, none⟩) (Kd.V_far (p := ⟨gb334, 3, none⟩) (Kd.V_far (p := ⟨gb334, 2, none⟩) (Kd.V_far (p := ⟨gb334, 1, none⟩) (Kd.V_far (p := ⟨gb334, 0, none⟩) (Kd.V_mono HO_1.out (fun k_ hk => (⟨hk, hk.2⟩ : _ ∧ k_ ≠ gb334))) (fun _ hk => hk.2) (.int .i64 t325)) (fun _ hk => hk.2) (.int .i64 t326)) (fun _ hk => hk.2) (.slice Ao21 t327.length co21)) (fun _ hk => hk.2) (.int .i64 t330)) (fun _ hk => hk.2) (.int .i64 t331)) (fun _ hk => hk.2) (.int .i64 t332)) (fun _ hk => ⟨hk.1.1.1, ⟨(by simp [Value.ownBlock]), ⟨hk.1.1.2, hk.1.2⟩⟩⟩)⟩, ⟨by first | exact Kd.S_nil _ _ _ _ _ | exact Kd.N_nil _ _ _ _ _ | exact Kd.V_nil _ _ _ _ _ | exact Kd.Q_nil _ _ _ _ _ | exact Kd.R_nil _ _ _ _ _⟩, ⟨by (with_reducible repeat first|apply vA6|apply vN6|apply vD6); exact Kd.V_mono (Kd.V_far (p := ⟨gb334, 5, none⟩) (Kd.V_far (p := ⟨gb334, 4, none⟩) (Kd.V_far (p := ⟨gb334, 3, none⟩) (Kd.V_far (p := ⟨gb334, 2, none⟩) (Kd.V_far (p := ⟨gb334, 1, none⟩) (Kd.V_far (p := ⟨gb334, 0, none⟩) (Kd.V_mono HO319.out (fun k_ hk => (⟨hk, hk.2⟩ : _ ∧ k_ ≠ gb334))) (fun _ hk => hk.2) (.int .i64 t325)) (fun _ hk => hk.2) (.int .i64 t326)) (fun _ hk => hk.2) (.slice Ao21 t327.length co21)) (fun _ hk => hk.2) (.int .i64 t330)) (fun _ hk => hk.2) (.int .i64 t331)) (fun _ hk => hk.2) (.int .i64 t332)) (fun _ hk => ⟨hk.1.1.1, ⟨(by simp [Value.ownBlock]), ⟨hk.1.1.2, hk.1.2⟩⟩⟩)⟩, ⟨by (with_reducible repeat first|apply vA6|apply vN6|apply vD6); exact Kd.V_mono (Kd.V_far (p := ⟨gb334, 5, none⟩) (Kd.V_far (p := ⟨gb334, 4, none⟩) (Kd.V_far (p := ⟨gb334, 3, none⟩) (Kd.V_far (p := ⟨gb334, 2, none⟩) (Kd.V_far (p := ⟨gb334, 1, none⟩) (Kd.V_far (p := ⟨gb334, 0, none⟩) (Kd.V_mono HO329.out (fun k_ hk => (⟨hk, hk.2⟩ : _ ∧ k_ ≠ gb334))) (fun _ hk => hk.2) (.int .i64 t325)) (fun _ hk => hk.2) (.int .i64 t326)) (fun _ hk => hk.2) (.slice Ao21 t327.length co21)) (fun _ hk => hk.2) (.int .i64 t330)) (fun _ hk => hk.2) (.int .i64 t331)) (fun _ hk => hk.2) (.int .i64 t332)) (fun _ hk => ⟨hk.1.1.1, ⟨(by simp [Value.ownBlock]), ⟨hk.1.1.2, hk.1.2⟩⟩⟩)⟩, ⟨by (with_reducible repeat first|apply zN6|apply zD6|apply zA6); refine blk_far ?_ NB324_334.out _; (with_reducible repeat first|apply zN6|apply zD6|apply zA6); refine blk_far ?_ NB324_334.out _; (with_reducible repeat first|apply zN6|apply zD6|apply zA6); refine blk_far ?_ NB324_334.out _; (with_reducible repeat first|apply zN6|apply zD6|apply zA6); refine blk_far ?_ NB324_334.out _; (with_reducible repeat first|apply zN6|apply zD6|apply zA6); refine blk_far ?_ NB324_334.out _; (with_reducible repeat first|apply zN6|apply zD6|apply zA6); refine blk_far ?_ NB324_334.out _; (with_reducible repeat first|apply zN6|apply zD6|apply zA6); exact BK324.out⟩, ⟨by (with_reducible repeat first|apply zN6|apply zD6|apply zA6); refine blk_put (cs := #[.int .i64 t325, .int .i64 t326, .slice Ao21 t327.length co21, .int .i64 t330, .int .i64 t331, .int .i64 0]) ?_ 5 _ rfl; (with_reducible repeat first|apply zN6|apply zD6|apply zA6); refine blk_put (cs := #[.int .i64 t325, .int .i64 t326, .slice Ao21 t327.length co21, .int .i64 t330, .int .i64 0, .int .i64 0]) ?_ 4 _ rfl; (with_reducible repeat first|apply zN6|apply zD6|apply zA6); refine blk_put (cs := #[.int .i64 t325, .int .i64 t326, .slice Ao21 t327.length co21, .int .i64 0, .int .i64 0, .int .i64 0]) ?_ 3 _ rfl; (with_reducible repeat first|apply zN6|apply zD6|apply zA6); refine blk_put (cs := #[.int .i64 t325, .int .i64 t326, .slice none 0 0, .int .i64 0, .int .i64 0, .int .i64 0]) ?_ 2 _ rfl; (with_reducible repeat first|apply zN6|apply zD6|apply zA6); refine blk_put (cs := #[.int .i64 t325, .int .i64 0, .slice none 0 0, .int .i64 0, .int .i64 0, .int .i64 0]) ?_ 1 _ rfl; (with_reducible repeat first|apply zN6|apply zD6|apply zA6); refine blk_put (cs := #[.int .i64 0, .int .i64 0, .slice none 0 0, .int .i64 0, .int .i64 0, .int .i64 0]) ?_ 0 _ rfl; (with_reducible repeat first|apply zN6|apply zD6|apply zA6); exact BK334.out⟩, ⟨by repeat (first | (with_reducible first | exact HB.out | apply below_alloc | apply pw_below_drewN | apply below_drew1 | refine below_set ?_ GE324.out | refine below_set ?_ GE334.out) | exact HB.out)⟩⟩
    case round =>
     clear H'
     try clear c1
     try clear p2
     try clear c6
     try clear p6
     try clear c7
     try clear c8
     try clear c9
     try clear c16
     try clear c19
     try clear hcz14_0
     try clear hcz14_1
     try clear hcz14_2
     try clear hcz14_3
     try clear hcz14_4
     try clear hcz14_5
     try clear hcz20_0
     try clear hcz20_1
     try clear hcz20_2
     try clear hcz20_3
     try clear hcz20_4
     try clear hcz20_5
     try clear hfz14_0
     try clear hfz14_1
     try clear hfz14_2
     try clear hfz14_3
     try clear hfz14_4
     try clear hfz14_5
     try clear hfz20_0
     try clear hfz20_1
     try clear hfz20_2
     try clear hfz20_3
     try clear hfz20_4
     try clear hfz20_5
     try clear p2
     obtain ⟨x10_2, x11_2, x12_2, rfl, rfl, HA, HK2, HO_0, HO_1, HO_11, HO_325002, HO_335002, BK324, BK334, HB⟩ := hrel
     cases gk with
     | zero => exact absurd HA.out (by simp [ridgewaylaw09_RouteBest.l0])
     | succ k2 =>
      have H := HA.out
      clear HA
      simp only [ridgewaylaw09_RouteBest.l0] at H
      by_cases c22 : x12_2 ≥ 0
      ·rw [if_pos c22] at H
       have c22b0 : decide (0 ≤ x12_2) = true := decide_eq_true c22
       clear c22
       have HC23 := Aside0.mk H
       clear H
       go_upto_region 11 with (fail)
       go_cut [10] (fun v10 wc => ∃ (kq : Nat) (x10_22 : Bool), v10 = .bool x10_22 ∧ Aside0 (ridgewaylaw09_RouteBest.j2 kq l0 l1 t312 t323 t333 x10_22 x11_2 x12_2 t315 t316 t317 t320 t321 t322 t325 t326 t327 t330 t331 t332 = some r) ∧ Aside0 (kq ≤ k2) ∧ Aside0 (Kd.V k27 27 wc w.heap.size (fun k_ => ((P0_ k_ ∨ P1_ k_) ∨ w.heap.size ≤ k_) ∧ some k_ ≠ (u11 : Value).ownBlock ∧ k_ ≠ gb324 ∧ k_ ≠ gb334) (.slice A0 l0.length c0) l0) ∧ Aside0 (Kd.V k27 27 wc w.heap.size (fun k_ => ((P0_ k_ ∨ P1_ k_) ∨ w.heap.size ≤ k_) ∧ some k_ ≠ (u11 : Value).ownBlock ∧ k_ ≠ gb324 ∧ k_ ≠ gb334) (.slice A1 l1.length c1) l1) ∧ Aside0 (Kd.N k27 27 wc w.heap.size (fun k_ => ((P0_ k_ ∨ P1_ k_) ∨ w.heap.size ≤ k_) ∧ k_ ≠ gb324 ∧ k_ ≠ gb334) u11 x11_2) ∧ Aside0 (Kd.V (Kd.int .i64) 3 wc w.heap.size (fun k_ => ((P0_ k_ ∨ P1_ k_) ∨ w.heap.size ≤ k_) ∧ some k_ ≠ (u11 : Value).ownBlock ∧ k_ ≠ gb324 ∧ k_ ≠ gb334) (.slice Ao15 t317.length co15) t317) ∧ Aside0 (Kd.V (Kd.int .i64) 3 wc w.heap.size (fun k_ => ((P0_ k_ ∨ P1_ k_) ∨ w.heap.size ≤ k_) ∧ some k_ ≠ (u11 : Value).ownBlock ∧ k_ ≠ gb324 ∧ k_ ≠ gb334) (.slice Ao21 t327.length co21) t327) ∧ Aside0 (wc.heap[gb324]? = some (.cells #[.int .i64 t315, .int .i64 t316, (.slice Ao15 t317.length co15), .int .i64 t320, .int .i64 t321, .int .i64 t322] 27 (0, 0))) ∧ Aside0 (wc.heap[gb334]? = some (.cells #[.int .i64 t325, .int .i64 t326, (.slice Ao21 t327.length co21), .int .i64 t330, .int .i64 t331, .int .i64 t332] 27 (0, 0))) ∧ Aside0 (Below w.heap.size w wc))
       case first =>
        have H := HC23.out
        clear HC23
        by_cases c24 : x10_2 = true
        ·subst c24
         have H1 : (ridgewaylaw09_RouteBest.j2 k2 l0 l1 t312 t323 t333 true x11_2 x12_2 t315 t316 t317 t320 t321 t322 t325 t326 t327 t330 t331 t332) = some r := by rw [if_pos rfl] at H; exact H
         clear H
         have H := H1
         clear H1
         have H' := Aside0.mk H
         clear H
         try go_wp2
         have n0_ := Aside0.mk (Kd.V_drew HO_0.out)
         have n1_ := Aside0.mk (Kd.V_drew HO_1.out)
         have n2_ := Aside0.mk (Kd.N_drew HO_11.out)
         have n3_ := Aside0.mk (Kd.V_drew HO_325002.out)
         have n4_ := Aside0.mk (Kd.V_drew HO_335002.out)
         have n5_ := Aside0.mk (blk_drew BK324.out)
         have n6_ := Aside0.mk (blk_drew BK334.out)
         have n7_ := Aside0.mk (below_drew1 HB.out)
         clear HO_0
         clear HO_1
         clear HO_11
         clear HO_325002
         clear HO_335002
         clear BK324
         clear BK334
         clear HB
         have HO_0 := n0_
         have HO_1 := n1_
         have HO_11 := n2_
         have HO_325002 := n3_
         have HO_335002 := n4_
         have BK324 := n5_
         have BK334 := n6_
         have HB := n7_
         clear n0_ n1_ n2_ n3_ n4_ n5_ n6_ n7_
         refine start_ (n := 10) (S := fun w' => True) (ds := []) #[false, false, false, false, false, false, false, false, false, false] (by kernel_rfl) rfl rfl trivial (fun hHeld => ?_); refine with_tabW ridgewaylaw09_RouteBest.tab11 ridgewaylaw09_RouteBest.bits11 (fun HT_ HW_ => ?_)
         generalize wr.drew = w25 at HO_0 HO_1 HO_11 HO_325002 HO_335002 BK324 BK334 HB hHeld ⊢
         refine pure_ (i := 0) (N := some 46) (v := ?_) (a' := ?_) #[true, false, false, false, false, false, false, false, false, false] rfl rfl (any_of HT_.out (by kernel_rfl)) (fun _ _ _ h => h) (Or.inl ⟨by rfl, ?_⟩) ?_ ?_
         rotate_left
         ·intro w'
          go_simp
          with_reducible rfl
         rotate_left
         ·simp only [Act.put, List.setIfInBounds_toArray, List.set_cons_zero, List.set_cons_succ, i64_w, i32_w]
          rfl
         refine pure_ (i := 1) (N := some 47) (v := ?_) (a' := ?_) #[true, true, false, false, false, false, false, false, false, false] rfl rfl (any_of HT_.out (by kernel_rfl)) (fun _ _ _ h => h) (Or.inl ⟨by rfl, ?_⟩) ?_ ?_
         rotate_left
         ·intro w'
          go_simp
          with_reducible rfl
         rotate_left
         ·simp only [Act.put, List.setIfInBounds_toArray, List.set_cons_zero, List.set_cons_succ, i64_w, i32_w]
          rfl
         refine pure_ (i := 2) (N := some 48) (v := undef) (a' := ?_) #[true, true, true, false, false, false, false, false, false, false] rfl rfl (any_of HT_.out (by kernel_rfl)) (fun _ _ _ h => h) (Or.inr ⟨by rfl, rfl⟩) ?_ ?_
         rotate_left
         ·simp only [Act.put, List.setIfInBounds_toArray, List.set_cons_zero, List.set_cons_succ, i64_w, i32_w]
          rfl
         refine pure_ (i := 3) (N := some 49) (v := undef) (a' := ?_) #[true, true, true, true, false, false, false, false, false, false] rfl rfl (any_of HT_.out (by kernel_rfl)) (fun _ _ _ h => h) (Or.inr ⟨by rfl, rfl⟩) ?_ ?_
         rotate_left
         ·simp only [Act.put, List.setIfInBounds_toArray, List.set_cons_zero, List.set_cons_succ, i64_w, i32_w]
          rfl
         refine pure_ (i := 4) (N := some 50) (v := undef) (a' := ?_) #[true, true, true, true, true, false, false, false, false, false] rfl rfl (any_of HT_.out (by kernel_rfl)) (fun _ _ _ h => h) (Or.inr ⟨by rfl, rfl⟩) ?_ ?_
         rotate_left
         ·simp only [Act.put, List.setIfInBounds_toArray, List.set_cons_zero, List.set_cons_succ, i64_w, i32_w]
          rfl
         refine pure_ (i := 5) (N := some 51) (v := undef) (a' := ?_) #[true, true, true, true, true, true, false, false, false, false] rfl rfl (any_of HT_.out (by kernel_rfl)) (fun _ _ _ h => h) (Or.inr ⟨by rfl, rfl⟩) ?_ ?_
         rotate_left
         ·simp only [Act.put, List.setIfInBounds_toArray, List.set_cons_zero, List.set_cons_succ, i64_w, i32_w]
          rfl
         refine pure_ (i := 6) (N := some 52) (v := undef) (a' := ?_) #[true, true, true, true, true, true, true, false, false, false] rfl rfl (any_of HT_.out (by kernel_rfl)) (fun _ _ _ h => h) (Or.inr ⟨by rfl, rfl⟩) ?_ ?_
         rotate_left
         ·simp only [Act.put, List.setIfInBounds_toArray, List.set_cons_zero, List.set_cons_succ, i64_w, i32_w]
          rfl
         refine pure_ (i := 7) (N := some 53) (v := undef) (a' := ?_) #[true, true, true, true, true, true, true, true, false, false] rfl rfl (any_of HT_.out (by kernel_rfl)) (fun _ _ _ h => h) (Or.inr ⟨by rfl, rfl⟩) ?_ ?_
         rotate_left
         ·simp only [Act.put, List.setIfInBounds_toArray, List.set_cons_zero, List.set_cons_succ, i64_w, i32_w]
          rfl
         refine pure_ (i := 8) (N := some 54) (v := ?_) (a' := ?_) #[true, true, true, true, true, true, true, true, true, false] rfl rfl (any_of HT_.out (by kernel_rfl)) (fun _ _ _ h => h) (Or.inl ⟨by rfl, ?_⟩) ?_ ?_
         rotate_left
         ·intro w'
          go_simp
          with_reducible rfl
         rotate_left
         ·simp only [Act.put, List.setIfInBounds_toArray, List.set_cons_zero, List.set_cons_succ, i64_w, i32_w]
          rfl
         refine pure_ (i := 9) (N := some 10) (v := ?_) (a' := ?_) #[true, true, true, true, true, true, true, true, true, true] rfl rfl (any_of HT_.out (by kernel_rfl)) (fun _ _ _ h => h) (Or.inl ⟨by rfl, ?_⟩) ?_ ?_
         rotate_left
         ·intro w'
          go_simp
          with_reducible rfl
         rotate_left
         ·simp only [Act.put, List.setIfInBounds_toArray, List.set_cons_zero, List.set_cons_succ, i64_w, i32_w]
          rfl
         refine done_ (done_of HT_.out (by kernel_rfl)) ?_
         try go_wp2
         go_meet
         case rel => exact ⟨_, (true), (by first | rfl | (simp; done) | (simp [*]; done)), H', ⟨by have := HJ3.out; have := HK2.out; first | omega | exact Nat.le_refl _⟩, ⟨by (with_reducible repeat first|apply vA6|apply vN6|apply vD6); exact HO_0.out⟩, ⟨by (with_reducible repeat first|apply vA6|apply vN6|apply vD6); exact HO_1.out⟩, ⟨by (with_reducible repeat (first | apply Kd.N_alloc | apply Kd.N_drewN | apply Kd.N_drew)); exact HO_11.out⟩, ⟨by (with_reducible repeat first|apply vA6|apply vN6|apply vD6); exact HO_325002.out⟩, ⟨by (with_reducible repeat first|apply vA6|apply vN6|apply vD6); exact HO_335002.out⟩, ⟨by (with_reducible repeat first|apply zN6|apply zD6|apply zA6); exact BK324.out⟩, ⟨by (with_reducible repeat first|apply zN6|apply zD6|apply zA6); exact BK334.out⟩, ⟨by repeat (first | (with_reducible first | exact HB.out | apply below_alloc | apply pw_below_drewN | apply below_drew1 | refine below_set ?_ GE324.out | refine below_set ?_ GE334.out) | exact HB.out)⟩⟩
        ·replace c24 := Bool.eq_false_iff.mpr c24
         subst c24
         have H1 : (if 0 ≤ x12_2 then (if x12_2 < (l0.length : Int) then ((route_Same.f ((rd_T27 l0 x12_2).f0) ((rd_T27 l0 x12_2).f1.f0) ((rd_T27 l0 x12_2).f1.f1) ((rd_T27 l0 x12_2).f1.f2) ((rd_T27 l0 x12_2).f1.f3) ((rd_T27 l0 x12_2).f2) t315 t316 t317 t320 t321 t322).bind fun t336 => (ridgewaylaw09_RouteBest.j2 k2 l0 l1 t312 t323 t333 t336 x11_2 x12_2 t315 t316 t317 t320 t321 t322 t325 t326 t327 t330 t331 t332)) else (none)) else (none)) = some r := by rw [if_neg (show ¬ (false = true) by decide)] at H; exact H
         clear H
         have H := H1
         clear H1
         by_cases c26 : 0 ≤ x12_2
         ·rw [if_pos c26] at H
          have c26b0 : decide (0 ≤ x12_2) = true := decide_eq_true c26
          clear c26
          (first | rw [c26b0] | (simp only [i64_w, i32_w]; rw [c26b0]) | (have cw_ := c26b0; simp only [gt_iff_lt, ge_iff_le, Int.natCast_pos] at cw_; rw [cw_]; clear cw_) | skip)
          skip
          by_cases c27 : x12_2 < (l0.length : Int)
          ·rw [if_pos c27] at H
           have c27b0 : decide (x12_2 < (l0.length : Int)) = true := decide_eq_true c27
           clear c27
           replace H := Option.bind_eq_some_iff.mp H
           obtain ⟨t336, A280, H⟩ := H
           replace H : (ridgewaylaw09_RouteBest.j2 k2 l0 l1 t312 t323 t333 t336 x11_2 x12_2 t315 t316 t317 t320 t321 t322 t325 t326 t327 t330 t331 t332) = some r := H
           have A28 := Aside0.mk A280
           clear A280
           have H' := Aside0.mk H
           clear H
           try go_wp2
           have n0_ := Aside0.mk (Kd.V_drew HO_0.out)
           have n1_ := Aside0.mk (Kd.V_drew HO_1.out)
           have n2_ := Aside0.mk (Kd.N_drew HO_11.out)
           have n3_ := Aside0.mk (Kd.V_drew HO_325002.out)
           have n4_ := Aside0.mk (Kd.V_drew HO_335002.out)
           have n5_ := Aside0.mk (blk_drew BK324.out)
           have n6_ := Aside0.mk (blk_drew BK334.out)
           have n7_ := Aside0.mk (below_drew1 HB.out)
           clear HO_0
           clear HO_1
           clear HO_11
           clear HO_325002
           clear HO_335002
           clear BK324
           clear BK334
           clear HB
           have HO_0 := n0_
           have HO_1 := n1_
           have HO_11 := n2_
           have HO_325002 := n3_
           have HO_335002 := n4_
           have BK324 := n5_
           have BK334 := n6_
           have HB := n7_
           clear n0_ n1_ n2_ n3_ n4_ n5_ n6_ n7_
           have p335 : 0 ≤ (x12_2 : Int) := of_decide_eq_true (by first | (with_reducible assumption) | assumption)
           have q335 : x12_2 < (l0.length : Int) := of_decide_eq_true (by first | (with_reducible assumption) | assumption)
           obtain ⟨ad335, A335_2, c335_2, e335, hx335_0, hx335_1, hx335_2, hx335_3, hx335_4, hx335_5, hl335_2, hi335_2⟩ := at_T27 (Kd.V_reads' HO_0.out).2.2 x12_2 p335 q335
           cases e335
           obtain ⟨ce335, hce335, hMe335, hcc335⟩ := Kd.V_get HO_0.out z27 x12_2 p335 (by first | exact q335 | exact of_decide_eq_true (by first | (with_reducible assumption) | assumption) | (have e_ := (Kd.V_reads' HO_0.out).1; omega))
           obtain ⟨ua335_2, uc335_2, rfl, ul335_2, ge335_2⟩ := k27_openF hMe335
           have hv335_2 := hcc335 2 _ rfl
           rw [add_field _ _ 2 (by omega)] at hv335_2
           replace hv335_2 := Option.some.inj (hv335_2.symm.trans hx335_2)
           injection hv335_2 with hva_ hvn_ hvc_
           rw [hva_] at ge335_2
           rw [hvc_] at ul335_2
           have HL335_2 := Aside0.mk (show Kd.V (Kd.int .i64) 3 _ w.heap.size _ _ ((rd_T27 l0 x12_2).f1.f1) from Kd.V_mk ul335_2 ge335_2)
           clear hva_ hvn_ hvc_ ge335_2 ul335_2
           clear hcc335 hce335
           have HR335_2 := Aside0.mk hi335_2
           have HC335_2 := Aside0.mk hl335_2
           clear hi335_2 hl335_2
           replace p335 := eq_true p335
           replace q335 := eq_true q335
           refine start_ (n := 10) (S := fun w' => w'.cell? ⟨gb324, 0, none⟩ = some (.int .i64 t315) ∧ w'.cell? ⟨gb324, 1, none⟩ = some (.int .i64 t316) ∧ w'.cell? ⟨gb324, 2, none⟩ = some (.slice Ao15 t317.length co15) ∧ w'.cell? ⟨gb324, 3, none⟩ = some (.int .i64 t320) ∧ w'.cell? ⟨gb324, 4, none⟩ = some (.int .i64 t321) ∧ w'.cell? ⟨gb324, 5, none⟩ = some (.int .i64 t322) ∧ w'.cell? (ad335.add ((x12_2).toNat * 6)) = some (.int .i64 ((rd_T27 l0 x12_2).f0)) ∧ w'.cell? ⟨(ad335.add ((x12_2).toNat * 6)).block, (ad335.add ((x12_2).toNat * 6)).off + 1, none⟩ = some (.int .i64 ((rd_T27 l0 x12_2).f1.f0)) ∧ w'.cell? ⟨(ad335.add ((x12_2).toNat * 6)).block, (ad335.add ((x12_2).toNat * 6)).off + 2, none⟩ = some (.slice A335_2 ((rd_T27 l0 x12_2).f1.f1).length c335_2) ∧ w'.cell? ⟨(ad335.add ((x12_2).toNat * 6)).block, (ad335.add ((x12_2).toNat * 6)).off + 3, none⟩ = some (.int .i64 ((rd_T27 l0 x12_2).f1.f2)) ∧ w'.cell? ⟨(ad335.add ((x12_2).toNat * 6)).block, (ad335.add ((x12_2).toNat * 6)).off + 4, none⟩ = some (.int .i64 ((rd_T27 l0 x12_2).f1.f3)) ∧ w'.cell? ⟨(ad335.add ((x12_2).toNat * 6)).block, (ad335.add ((x12_2).toNat * 6)).off + 5, none⟩ = some (.int .i64 ((rd_T27 l0 x12_2).f2))) (ds := []) #[false, false, false, false, false, false, false, false, false, false] (by kernel_rfl) rfl rfl ⟨(blk_cell BK324.out 0).trans rfl, (blk_cell BK324.out 1).trans rfl, (blk_cell BK324.out 2).trans rfl, (blk_cell BK324.out 3).trans rfl, (blk_cell BK324.out 4).trans rfl, (blk_cell BK324.out 5).trans rfl, hx335_0, hx335_1, hx335_2, hx335_3, hx335_4, hx335_5⟩ (fun hHeld => ?_); refine with_tabW ridgewaylaw09_RouteBest.tab11 ridgewaylaw09_RouteBest.bits11 (fun HT_ HW_ => ?_)
           generalize wr.drew = w29 at HO_0 HO_1 HO_11 HO_325002 HO_335002 BK324 BK334 HB HL335_2 HR335_2 hx335_0 hx335_1 hx335_2 hx335_3 hx335_4 hx335_5 hHeld ⊢
           refine pure_ (i := 0) (N := some 46) (v := ?_) (a' := ?_) #[true, false, false, false, false, false, false, false, false, false] rfl rfl (any_of HT_.out (by kernel_rfl)) (fun _ _ _ h => h) (Or.inl ⟨by rfl, ?_⟩) ?_ ?_
           rotate_left
           ·intro w'
            go_simp
            with_reducible rfl
           rotate_left
           ·simp only [Act.put, List.setIfInBounds_toArray, List.set_cons_zero, List.set_cons_succ, i64_w, i32_w]
            rfl
           refine pure_ (i := 1) (N := some 47) (v := ?_) (a' := ?_) #[true, true, false, false, false, false, false, false, false, false] rfl rfl (any_of HT_.out (by kernel_rfl)) (fun _ _ _ h => h) (Or.inl ⟨by rfl, ?_⟩) ?_ ?_
           rotate_left
           ·intro w'
            go_simp
            with_reducible rfl
           rotate_left
           ·simp only [Act.put, List.setIfInBounds_toArray, List.set_cons_zero, List.set_cons_succ, i64_w, i32_w]
            rfl
           refine pure_ (i := 2) (N := some 48) (v := ?_) (a' := ?_) #[true, true, true, false, false, false, false, false, false, false] rfl rfl (any_of HT_.out (by kernel_rfl)) (fun _ _ _ h => h) (Or.inl ⟨by rfl, ?_⟩) ?_ ?_
           rotate_left
           ·intro w'
            go_simp
            with_reducible rfl
           rotate_left
           ·simp only [Act.put, List.setIfInBounds_toArray, List.set_cons_zero, List.set_cons_succ, i64_w, i32_w]
            rfl
           refine pure_ (i := 3) (N := some 49) (v := ?_) (a' := ?_) #[true, true, true, true, false, false, false, false, false, false] rfl rfl (any_of HT_.out (by kernel_rfl)) (fun _ _ _ h => h) (Or.inl ⟨by rfl, ?_⟩) ?_ ?_
           rotate_left
           ·intro w'
            go_simp
            with_reducible rfl
           rotate_left
           ·simp only [Act.put, List.setIfInBounds_toArray, List.set_cons_zero, List.set_cons_succ, i64_w, i32_w]
            rfl
           refine pure_ (i := 4) (N := some 50) (v := ?_) (a' := ?_) #[true, true, true, true, true, false, false, false, false, false] rfl rfl (any_of HT_.out (by kernel_rfl)) (fun _ _ _ h => h) (Or.inl ⟨by rfl, ?_⟩) ?_ ?_
           rotate_left
           ·intro w'
            go_simp
            with_reducible rfl
           rotate_left
           ·simp only [Act.put, List.setIfInBounds_toArray, List.set_cons_zero, List.set_cons_succ, i64_w, i32_w]
            rfl
           refine take_ (i := 5) (N := some 51) (v := ?_) (a' := ?_) #[true, true, true, true, true, true, false, false, false, false] rfl rfl (take_ofW HT_.out HW_.out (by kernel_rfl)) (fun _ _ _ h => h) (Or.inl ⟨by rfl, ?_⟩) hHeld ?_ ?_
           rotate_left
           ·rintro w' ⟨s0, s1, s2, s3, s4, s5, s6, s7, s8, s9, s10, s11⟩
            go_simp
            with_reducible rfl
           rotate_left
           ·simp only [Act.put, List.setIfInBounds_toArray, List.set_cons_zero, List.set_cons_succ, i64_w, i32_w]
            rfl
           refine take_ (i := 6) (N := some 52) (v := ?_) (a' := ?_) #[true, true, true, true, true, true, true, false, false, false] rfl rfl (take_ofW HT_.out HW_.out (by kernel_rfl)) (fun _ _ _ h => h) (Or.inl ⟨by rfl, ?_⟩) hHeld ?_ ?_
           rotate_left
           ·rintro w' ⟨s0, s1, s2, s3, s4, s5, s6, s7, s8, s9, s10, s11⟩
            go_simp
            with_reducible rfl
           rotate_left
           ·simp only [Act.put, List.setIfInBounds_toArray, List.set_cons_zero, List.set_cons_succ, i64_w, i32_w]
            rfl
           refine one_ (i := 7) (N := some 53) #[true, true, true, true, true, true, true, true, false, false] rfl rfl (one_of HT_.out (by kernel_rfl)) (by decide) (fun K hK => ?_)
           refine goes_ Try.func12 (by kernel_rfl) rfl #[.agg #[.int .i64 ((rd_T27 l0 x12_2).f0), .int .i64 ((rd_T27 l0 x12_2).f1.f0), .slice A335_2 ((rd_T27 l0 x12_2).f1.f1).length c335_2, .int .i64 ((rd_T27 l0 x12_2).f1.f2), .int .i64 ((rd_T27 l0 x12_2).f1.f3), .int .i64 ((rd_T27 l0 x12_2).f2)], .agg #[.int .i64 t315, .int .i64 t316, .slice Ao15 t317.length co15, .int .i64 t320, .int .i64 t321, .int .i64 t322]] (by rfl) rfl rfl (by (try simp only [List.map_toArray, List.map_cons, List.map_nil]); first | done | rfl | (simp only [List.length_drop, List.length_take]; rfl)) ?_
           with_reducible refine (route_Same.calls ((rd_T27 l0 x12_2).f0) ((rd_T27 l0 x12_2).f1.f0) _ _ ((rd_T27 l0 x12_2).f1.f1) ((rd_T27 l0 x12_2).f1.f2) ((rd_T27 l0 x12_2).f1.f3) ((rd_T27 l0 x12_2).f2) t315 t316 _ _ t317 t320 t321 t322 t336 _ ?side1 ?side2 ?side3 ?side4 A28.out).mono ?_
           (case side1 => repeat (first | exact (by repeat (first | (with_reducible exact HR335_2.out) | (with_reducible refine Kd.C_alloc ?_ _) | (with_reducible refine Kd.C_drewN ?_ _) | (with_reducible refine Kd.C_drew ?_) | exact HR335_2.out)) | (with_reducible refine Kd.C_alloc ?_ _) | (with_reducible refine Kd.C_drewN ?_ _) | (with_reducible refine Kd.C_drew ?_)))
           (case side2 => exact HC335_2.out)
           (case side3 => repeat (first | exact (Kd.V_reads' HO_325002.out).2.2 | (with_reducible refine Kd.C_alloc ?_ _) | (with_reducible refine Kd.C_drewN ?_ _) | (with_reducible refine Kd.C_drew ?_)))
           (case side4 => exact (Kd.V_reads' HO_325002.out).2.1)
           rintro e w30 ⟨rfl, hb⟩
           have HS6_ := (hb.cell (World.block_lt_of_cell? _ _ (hHeld.2.2.2.2.2.2.1))).trans (hHeld.2.2.2.2.2.2.1)
           have HS7_ := (hb.cell (World.block_lt_of_cell? _ _ (hHeld.2.2.2.2.2.2.2.1))).trans (hHeld.2.2.2.2.2.2.2.1)
           have HS8_ := (hb.cell (World.block_lt_of_cell? _ _ (hHeld.2.2.2.2.2.2.2.2.1))).trans (hHeld.2.2.2.2.2.2.2.2.1)
           have HS9_ := (hb.cell (World.block_lt_of_cell? _ _ (hHeld.2.2.2.2.2.2.2.2.2.1))).trans (hHeld.2.2.2.2.2.2.2.2.2.1)
           have HS10_ := (hb.cell (World.block_lt_of_cell? _ _ (hHeld.2.2.2.2.2.2.2.2.2.2.1))).trans (hHeld.2.2.2.2.2.2.2.2.2.2.1)
           have HS11_ := (hb.cell (World.block_lt_of_cell? _ _ (hHeld.2.2.2.2.2.2.2.2.2.2.2))).trans (hHeld.2.2.2.2.2.2.2.2.2.2.2)
           refine ⟨_, rfl, ?_⟩
           have n0_ := Aside0.mk (Kd.V_below (by (with_reducible repeat first|apply vA6|apply vN6|apply vD6); exact HO_0.out) hb)
           have n1_ := Aside0.mk (Kd.V_below (by (with_reducible repeat first|apply vA6|apply vN6|apply vD6); exact HO_1.out) hb)
           have n2_ := Aside0.mk (Kd.N_below (by (with_reducible repeat (first | apply Kd.N_alloc | apply Kd.N_drewN | apply Kd.N_drew)); exact HO_11.out) hb)
           have n3_ := Aside0.mk (Kd.V_below (by (with_reducible repeat first|apply vA6|apply vN6|apply vD6); exact HO_325002.out) hb)
           have n4_ := Aside0.mk (Kd.V_below (by (with_reducible repeat first|apply vA6|apply vN6|apply vD6); exact HO_335002.out) hb)
           have n5_ := Aside0.mk (Kd.V_below (by (with_reducible repeat first|apply vA6|apply vN6|apply vD6); exact HL335_2.out) hb)
           have n6_ := Aside0.mk (blk_below (g := gb324) (o := .cells #[.int .i64 t315, .int .i64 t316, .slice Ao15 t317.length co15, .int .i64 t320, .int .i64 t321, .int .i64 t322] 27 (0, 0)) (by (with_reducible repeat first|apply zN6|apply zD6|apply zA6); exact BK324.out) hb)
           have n7_ := Aside0.mk (blk_below (g := gb334) (o := .cells #[.int .i64 t325, .int .i64 t326, .slice Ao21 t327.length co21, .int .i64 t330, .int .i64 t331, .int .i64 t332] 27 (0, 0)) (by (with_reducible repeat first|apply zN6|apply zD6|apply zA6); exact BK334.out) hb)
           have n8_ := Aside0.mk (Kd.C_below (by repeat (first | (with_reducible exact HR335_2.out) | (with_reducible refine Kd.C_alloc ?_ _) | (with_reducible refine Kd.C_drewN ?_ _) | (with_reducible refine Kd.C_drew ?_) | exact HR335_2.out)) hb)
           have n9_ := Aside0.mk (below_step (by repeat (first | (with_reducible first | exact HB.out | apply below_alloc | apply pw_below_drewN | apply below_drew1 | refine below_set ?_ GE324.out | refine below_set ?_ GE334.out) | exact HB.out)) hb)
           clear HO_0
           clear HO_1
           clear HO_11
           clear HO_325002
           clear HO_335002
           clear HL335_2
           clear BK324
           clear BK334
           clear HR335_2
           clear HB
           have HO_0 := n0_
           have HO_1 := n1_
           have HO_11 := n2_
           have HO_325002 := n3_
           have HO_335002 := n4_
           have HL335_2 := n5_
           have BK324 := n6_
           have BK334 := n7_
           have HR335_2 := n8_
           have HB := n9_
           clear n0_ n1_ n2_ n3_ n4_ n5_ n6_ n7_ n8_ n9_
           (try clear hb)
           (try clear hb2)
           (try clear hk)
           (try clear hi)
           refine hK.out _ _ ⟨(blk_cell BK324.out 0).trans rfl, (blk_cell BK324.out 1).trans rfl, (blk_cell BK324.out 2).trans rfl, (blk_cell BK324.out 3).trans rfl, (blk_cell BK324.out 4).trans rfl, (blk_cell BK324.out 5).trans rfl, HS6_, HS7_, HS8_, HS9_, HS10_, HS11_⟩ (fun hHeld => ?_)
           clear hK K
           refine norm_ (a' := ?_) ?_ ?_
           rotate_left
           ·show Act.put _ (some 53) _ = _
            simp only [Act.put, List.setIfInBounds_toArray, List.set_cons_zero, List.set_cons_succ, i64_w, i32_w]
            rfl
           refine pure_ (i := 8) (N := some 54) (v := ?_) (a' := ?_) #[true, true, true, true, true, true, true, true, true, false] rfl rfl (any_of HT_.out (by kernel_rfl)) (fun _ _ _ h => h) (Or.inl ⟨by rfl, ?_⟩) ?_ ?_
           rotate_left
           ·intro w'
            go_simp
            with_reducible rfl
           rotate_left
           ·simp only [Act.put, List.setIfInBounds_toArray, List.set_cons_zero, List.set_cons_succ, i64_w, i32_w]
            rfl
           refine pure_ (i := 9) (N := some 10) (v := ?_) (a' := ?_) #[true, true, true, true, true, true, true, true, true, true] rfl rfl (any_of HT_.out (by kernel_rfl)) (fun _ _ _ h => h) (Or.inl ⟨by rfl, ?_⟩) ?_ ?_
           rotate_left
           ·intro w'
            go_simp
            with_reducible rfl
           rotate_left
           ·simp only [Act.put, List.setIfInBounds_toArray, List.set_cons_zero, List.set_cons_succ, i64_w, i32_w]
            rfl
           refine done_ (done_of HT_.out (by kernel_rfl)) ?_
           try go_wp2
           go_meet
           case rel => exact ⟨_, (t336), (by first | rfl | (simp; done) | (simp [*]; done)), H', ⟨by have := HJ3.out; have := HK2.out; first | omega | exact Nat.le_refl _⟩, ⟨by (with_reducible repeat first|apply vA6|apply vN6|apply vD6); exact HO_0.out⟩, ⟨by (with_reducible repeat first|apply vA6|apply vN6|apply vD6); exact HO_1.out⟩, ⟨by (with_reducible repeat (first | apply Kd.N_alloc | apply Kd.N_drewN | apply Kd.N_drew)); exact HO_11.out⟩, ⟨by (with_reducible repeat first|apply vA6|apply vN6|apply vD6); exact HO_325002.out⟩, ⟨by (with_reducible repeat first|apply vA6|apply vN6|apply vD6); exact HO_335002.out⟩, ⟨by (with_reducible repeat first|apply zN6|apply zD6|apply zA6); exact BK324.out⟩, ⟨by (with_reducible repeat first|apply zN6|apply zD6|apply zA6); exact BK334.out⟩, ⟨by repeat (first | (with_reducible first | exact HB.out | apply below_alloc | apply pw_below_drewN | apply below_drew1 | refine below_set ?_ GE324.out | refine below_set ?_ GE334.out) | exact HB.out)⟩⟩
          ·rw [if_neg c27] at H
           exact absurd H (by simp)
         ·rw [if_neg c26] at H
          exact absurd H (by simp)
       case rest =>
        clear HC23
        try clear c1
        try clear c2
        try clear p2
        try clear c3
        try clear p3
        try clear q3
        try clear hx3
        try clear c6
        try clear p6
        try clear c7
        try clear c8
        try clear c9
        try clear c12
        try clear c16
        try clear c19
        try clear c22
        try clear c22b0
        try clear c24
        try clear c26
        try clear c26b0
        try clear c27
        try clear c27b0
        try clear hcz14_0
        try clear hcz14_1
        try clear hcz14_2
        try clear hcz14_3
        try clear hcz14_4
        try clear hcz14_5
        try clear hcz20_0
        try clear hcz20_1
        try clear hcz20_2
        try clear hcz20_3
        try clear hcz20_4
        try clear hcz20_5
        try clear hfz14_0
        try clear hfz14_1
        try clear hfz14_2
        try clear hfz14_3
        try clear hfz14_4
        try clear hfz14_5
        try clear hfz20_0
        try clear hfz20_1
        try clear hfz20_2
        try clear hfz20_3
        try clear hfz20_4
        try clear hfz20_5
        try clear hx335_0
        try clear hx335_1
        try clear hx335_2
        try clear hx335_3
        try clear hx335_4
        try clear hx335_5
        try clear p2
        try clear p335
        try clear p6
        try clear q335
        obtain ⟨kq, x10_22, rfl, HA, HJ22, HO_0, HO_1, HO_11, HO_325002, HO_335002, BK324, BK334, HB⟩ := hcut
        cases kq with
        | zero => exact absurd HA.out (by simp [ridgewaylaw09_RouteBest.j2])
        | succ kj22 =>
         have H := HA.out
         clear HA
         simp only [ridgewaylaw09_RouteBest.j2] at H
         by_cases c31 : 0 ≤ x12_2
         ·rw [if_pos c31] at H
          have c31b0 : decide (0 ≤ x12_2) = true := decide_eq_true c31
          clear c31
          by_cases c32 : x12_2 < (l0.length : Int)
          ·rw [if_pos c32] at H
           have c32b0 : decide (x12_2 < (l0.length : Int)) = true := decide_eq_true c32
           clear c32
           by_cases c33 : x11_2.length < 2199023255552
           ·rw [if_pos c33] at H
            have LMc33 := Aside0.mk c33
            clear c33
            obtain ⟨y338, hy338⟩ : ∃ y_ : List (S27), y_ = (x11_2 ++ [(⟨(rd_T27 l0 x12_2).f0, (⟨(rd_T27 l0 x12_2).f1.f0, (rd_T27 l0 x12_2).f1.f1, (rd_T27 l0 x12_2).f1.f2, (rd_T27 l0 x12_2).f1.f3⟩ : S25), (rd_T27 l0 x12_2).f2⟩ : S27)]) := ⟨_, rfl⟩
            replace H : ((route_Compare.f ((rd_T27 l0 x12_2).f0) ((rd_T27 l0 x12_2).f1.f0) ((rd_T27 l0 x12_2).f1.f1) ((rd_T27 l0 x12_2).f1.f2) ((rd_T27 l0 x12_2).f1.f3) ((rd_T27 l0 x12_2).f2) t315 t316 t317 t320 t321 t322).bind fun t342 => (if t342 < 0 then (none) else (ridgewaylaw09_RouteBest.l0 kj22 l0 l1 t312 t323 t333 x10_22 y338 (wrap64 (x12_2 - 1)) t315 t316 t317 t320 t321 t322 t325 t326 t327 t330 t331 t332))) = some r := by first | (rw [hy338]; with_reducible exact H) | (have H2_ := (Option.bind_some _ _).symm.trans H; rw [hy338]; with_reducible exact H2_) | (have H2_ := (Option.bind_some _ _).symm.trans H; with_reducible exact H2_) | with_reducible exact H | (rw [hy338]; exact H) | exact H
            have Ny338 := Aside0.mk hy338
            clear hy338
            replace H := Option.bind_eq_some_iff.mp H
            obtain ⟨t342, A340, H⟩ := H
            replace H : (if t342 < 0 then (none) else (ridgewaylaw09_RouteBest.l0 kj22 l0 l1 t312 t323 t333 x10_22 y338 (wrap64 (x12_2 - 1)) t315 t316 t317 t320 t321 t322 t325 t326 t327 t330 t331 t332)) = some r := H
            have A34 := Aside0.mk A340
            clear A340
            by_cases c35 : t342 < 0
            ·rw [if_pos c35] at H
             exact absurd H (by simp)
            ·rw [if_neg c35] at H
             have c35b0 : decide (t342 < 0) = false := decide_eq_false c35
             clear c35
             have H' := Aside0.mk H
             clear H
             have p337 : 0 ≤ (x12_2 : Int) := of_decide_eq_true (by first | (with_reducible assumption) | assumption)
             have q337 : x12_2 < (l0.length : Int) := of_decide_eq_true (by first | (with_reducible assumption) | assumption)
             obtain ⟨ad337, A337_2, c337_2, e337, hx337_0, hx337_1, hx337_2, hx337_3, hx337_4, hx337_5, hl337_2, hi337_2⟩ := at_T27 (Kd.V_reads' HO_0.out).2.2 x12_2 p337 q337
             cases e337
             obtain ⟨ce337, hce337, hMe337, hcc337⟩ := Kd.V_get HO_0.out z27 x12_2 p337 (by first | exact q337 | exact of_decide_eq_true (by first | (with_reducible assumption) | assumption) | (have e_ := (Kd.V_reads' HO_0.out).1; omega))
             obtain ⟨ua337_2, uc337_2, rfl, ul337_2, ge337_2⟩ := k27_openF hMe337
             have hv337_2 := hcc337 2 _ rfl
             rw [add_field _ _ 2 (by omega)] at hv337_2
             replace hv337_2 := Option.some.inj (hv337_2.symm.trans hx337_2)
             injection hv337_2 with hva_ hvn_ hvc_
             rw [hva_] at ge337_2
             rw [hvc_] at ul337_2
             have HL337_2 := Aside0.mk (show Kd.V (Kd.int .i64) 3 _ w.heap.size _ _ ((rd_T27 l0 x12_2).f1.f1) from Kd.V_mk ul337_2 ge337_2)
             clear hva_ hvn_ hvc_ ge337_2 ul337_2
             clear hcc337 hce337
             have HR337_2 := Aside0.mk hi337_2
             have HC337_2 := Aside0.mk hl337_2
             clear hi337_2 hl337_2
             replace p337 := eq_true p337
             replace q337 := eq_true q337
             try go_wp2_with (first | ((with_reducible refine gate_builtin (b := .append) (xs := #[.tmp 55, .tmp 60]) rfl ?_); at_builtin; refine Kd.N_append k27 (w0 := w) w.heap.size rfl (.tmp 55) (.tmp 60) 22 27 (.agg #[(.int .i64 0), (.int .i64 0), (.slice none 0 0), (.int .i64 0), (.int .i64 0), (.int .i64 0)]) 64 rfl Try.underlying22 info27 rfl (by decide) (by omega) u11 x11_2 (⟨(rd_T27 l0 x12_2).f0, (⟨(rd_T27 l0 x12_2).f1.f0, (rd_T27 l0 x12_2).f1.f1, (rd_T27 l0 x12_2).f1.f2, (rd_T27 l0 x12_2).f1.f3⟩ : S25), (rd_T27 l0 x12_2).f2⟩ : S27) [.int .i64 ((rd_T27 l0 x12_2).f0), .int .i64 ((rd_T27 l0 x12_2).f1.f0), .slice A337_2 ((rd_T27 l0 x12_2).f1.f1).length c337_2, .int .i64 ((rd_T27 l0 x12_2).f1.f2), .int .i64 ((rd_T27 l0 x12_2).f1.f3), .int .i64 ((rd_T27 l0 x12_2).f2)] (fun k_ => ((P0_ k_ ∨ P1_ k_) ∨ w.heap.size ≤ k_) ∧ k_ ≠ gb324 ∧ k_ ≠ gb334) (fun k_ => ((fun k_ => ((P0_ k_ ∨ P1_ k_) ∨ w.heap.size ≤ k_) ∧ k_ ≠ gb324 ∧ k_ ≠ gb334)) k_ ∧ some k_ ≠ (u11 : Value).ownBlock) rfl rfl ?aP (fun _ hk => hk) ?aF ?aO ?aB ?aS ?aL ?_; (case aP => exact (k27_mkF _ _ (⟨(rd_T27 l0 x12_2).f0, (⟨(rd_T27 l0 x12_2).f1.f0, (rd_T27 l0 x12_2).f1.f1, (rd_T27 l0 x12_2).f1.f2, (rd_T27 l0 x12_2).f1.f3⟩ : S25), (rd_T27 l0 x12_2).f2⟩ : S27) (Kd.V_reads' (Kd.V_mono (ok' := (fun k_ => ((fun k_ => ((P0_ k_ ∨ P1_ k_) ∨ w.heap.size ≤ k_) ∧ k_ ≠ gb324 ∧ k_ ≠ gb334)) k_ ∧ some k_ ≠ (u11 : Value).ownBlock)) (HL337_2.out) (fun k_ hk => ⟨⟨hk.1, ⟨hk.2.2.1, hk.2.2.2⟩⟩, hk.2.1⟩))).2.1 (Kd.V_F (Kd.V_mono (ok' := (fun k_ => ((fun k_ => ((P0_ k_ ∨ P1_ k_) ∨ w.heap.size ≤ k_) ∧ k_ ≠ gb324 ∧ k_ ≠ gb334)) k_ ∧ some k_ ≠ (u11 : Value).ownBlock)) (HL337_2.out) (fun k_ hk => ⟨⟨hk.1, ⟨hk.2.2.1, hk.2.2.2⟩⟩, hk.2.1⟩))))); (case aB => exact (by repeat (first | (with_reducible first | exact HB.out | apply below_alloc | apply pw_below_drewN | apply below_drew1 | refine below_set ?_ GE324.out | refine below_set ?_ GE334.out) | exact HB.out))); (case aF => exact (fun k_ hk => ⟨(.inr (Nat.le_trans (below_size (by repeat (first | (with_reducible first | exact HB.out | apply below_alloc | apply pw_below_drewN | apply below_drew1 | refine below_set ?_ GE324.out | refine below_set ?_ GE334.out) | exact HB.out))) hk)), Kd.freshB (g := gb324) (o := .cells #[.int .i64 t315, .int .i64 t316, .slice Ao15 t317.length co15, .int .i64 t320, .int .i64 t321, .int .i64 t322] 27 (0, 0)) (by (with_reducible repeat first|apply zN6|apply zD6|apply zA6); exact BK324.out) k_ hk, Kd.freshB (g := gb334) (o := .cells #[.int .i64 t325, .int .i64 t326, .slice Ao21 t327.length co21, .int .i64 t330, .int .i64 t331, .int .i64 t332] 27 (0, 0)) (by (with_reducible repeat first|apply zN6|apply zD6|apply zA6); exact BK334.out) k_ hk⟩)); (case aO => exact (by (with_reducible repeat (first | apply Kd.N_alloc | apply Kd.N_drewN | apply Kd.N_drew)); exact HO_11.out)); (case aS => exact (below_size (by repeat (first | (with_reducible first | exact HB.out | apply below_alloc | apply pw_below_drewN | apply below_drew1 | refine below_set ?_ GE324.out | refine below_set ?_ GE334.out) | exact HB.out)))); (case aL => have := LMc33.out; omega); intro v339 w36 ho hb hg hat; rw [← Ny338.out] at ho; have n0_ := Aside0.mk (Kd.V_afterv (ok := (fun k_ => ((P0_ k_ ∨ P1_ k_) ∨ w.heap.size ≤ k_) ∧ k_ ≠ gb324 ∧ k_ ≠ gb334)) (by (with_reducible repeat first|apply vA6|apply vN6|apply vD6); exact Kd.V_mono HO_0.out (fun _ hk => ⟨⟨hk.1, ⟨hk.2.2.1, hk.2.2.2⟩⟩, hk.2.1⟩)) hg hat); have n1_ := Aside0.mk (Kd.V_afterv (ok := (fun k_ => ((P0_ k_ ∨ P1_ k_) ∨ w.heap.size ≤ k_) ∧ k_ ≠ gb324 ∧ k_ ≠ gb334)) (by (with_reducible repeat first|apply vA6|apply vN6|apply vD6); exact Kd.V_mono HO_1.out (fun _ hk => ⟨⟨hk.1, ⟨hk.2.2.1, hk.2.2.2⟩⟩, hk.2.1⟩)) hg hat); have n2_ := Aside0.mk (Kd.V_afterv (ok := (fun k_ => ((P0_ k_ ∨ P1_ k_) ∨ w.heap.size ≤ k_) ∧ k_ ≠ gb324 ∧ k_ ≠ gb334)) (by (with_reducible repeat first|apply vA6|apply vN6|apply vD6); exact Kd.V_mono HO_325002.out (fun _ hk => ⟨⟨hk.1, ⟨hk.2.2.1, hk.2.2.2⟩⟩, hk.2.1⟩)) hg hat); have n3_ := Aside0.mk (Kd.V_afterv (ok := (fun k_ => ((P0_ k_ ∨ P1_ k_) ∨ w.heap.size ≤ k_) ∧ k_ ≠ gb324 ∧ k_ ≠ gb334)) (by (with_reducible repeat first|apply vA6|apply vN6|apply vD6); exact Kd.V_mono HO_335002.out (fun _ hk => ⟨⟨hk.1, ⟨hk.2.2.1, hk.2.2.2⟩⟩, hk.2.1⟩)) hg hat); have n4_ := Aside0.mk (blk_grown (g := gb324) (o := .cells #[.int .i64 t315, .int .i64 t316, .slice Ao15 t317.length co15, .int .i64 t320, .int .i64 t321, .int .i64 t322] 27 (0, 0)) (by (with_reducible repeat first|apply zN6|apply zD6|apply zA6); exact BK324.out) hg (Kd.N_away HO_11.out (fun _ hk => hk.2.1))); have n5_ := Aside0.mk (blk_grown (g := gb334) (o := .cells #[.int .i64 t325, .int .i64 t326, .slice Ao21 t327.length co21, .int .i64 t330, .int .i64 t331, .int .i64 t332] 27 (0, 0)) (by (with_reducible repeat first|apply zN6|apply zD6|apply zA6); exact BK334.out) hg (Kd.N_away HO_11.out (fun _ hk => hk.2.2))); have n6_ := Aside0.mk (Kd.V_afterv (ok := (fun k_ => ((P0_ k_ ∨ P1_ k_) ∨ w.heap.size ≤ k_) ∧ k_ ≠ gb324 ∧ k_ ≠ gb334)) (by (with_reducible repeat first|apply vA6|apply vN6|apply vD6); exact Kd.V_mono HL337_2.out (fun _ hk => ⟨⟨hk.1, ⟨hk.2.2.1, hk.2.2.2⟩⟩, hk.2.1⟩)) hg hat); have n7_ := Aside0.mk (hb); have n8_ := Aside0.mk (ho); clear HO_0; clear HO_1; clear HO_325002; clear HO_335002; clear BK324; clear BK334; clear HL337_2; clear HB; clear HO_11; have HO_0 := n0_; have HO_1 := n1_; have HO_325002 := n2_; have HO_335002 := n3_; have BK324 := n4_; have BK334 := n5_; have HL337_2 := n6_; have HB := n7_; have HO340 := n8_; clear n0_ n1_ n2_ n3_ n4_ n5_ n6_ n7_ n8_; clear ho hb hg hat))
             have n0_ := Aside0.mk (Kd.V_drew HO_0.out)
             have n1_ := Aside0.mk (Kd.V_drew HO_1.out)
             have n2_ := Aside0.mk (Kd.V_drew HO_325002.out)
             have n3_ := Aside0.mk (Kd.V_drew HO_335002.out)
             have n4_ := Aside0.mk (Kd.V_drew HL337_2.out)
             have n5_ := Aside0.mk (Kd.N_drew HO340.out)
             have n6_ := Aside0.mk (blk_drew BK324.out)
             have n7_ := Aside0.mk (blk_drew BK334.out)
             have n8_ := Aside0.mk (below_drew1 HB.out)
             clear HO_0
             clear HO_1
             clear HO_325002
             clear HO_335002
             clear HL337_2
             clear HO340
             clear BK324
             clear BK334
             clear HB
             have HO_0 := n0_
             have HO_1 := n1_
             have HO_325002 := n2_
             have HO_335002 := n3_
             have HL337_2 := n4_
             have HO340 := n5_
             have BK324 := n6_
             have BK334 := n7_
             have HB := n8_
             clear n0_ n1_ n2_ n3_ n4_ n5_ n6_ n7_ n8_
             have p341 : 0 ≤ (x12_2 : Int) := of_decide_eq_true (by first | (with_reducible assumption) | assumption)
             have q341 : x12_2 < (l0.length : Int) := of_decide_eq_true (by first | (with_reducible assumption) | assumption)
             obtain ⟨ad341, A341_2, c341_2, e341, hx341_0, hx341_1, hx341_2, hx341_3, hx341_4, hx341_5, hl341_2, hi341_2⟩ := at_T27 (Kd.V_reads' HO_0.out).2.2 x12_2 p341 q341
             obtain rfl : ad337 = ad341 := (by injection e341)
             obtain ⟨ce341, hce341, hMe341, hcc341⟩ := Kd.V_get HO_0.out z27 x12_2 p341 (by first | exact q341 | exact of_decide_eq_true (by first | (with_reducible assumption) | assumption) | (have e_ := (Kd.V_reads' HO_0.out).1; omega))
             obtain ⟨ua341_2, uc341_2, rfl, ul341_2, ge341_2⟩ := k27_openF hMe341
             have hv341_2 := hcc341 2 _ rfl
             rw [add_field _ _ 2 (by omega)] at hv341_2
             replace hv341_2 := Option.some.inj (hv341_2.symm.trans hx341_2)
             injection hv341_2 with hva_ hvn_ hvc_
             rw [hva_] at ge341_2
             rw [hvc_] at ul341_2
             have HL341_2 := Aside0.mk (show Kd.V (Kd.int .i64) 3 _ w.heap.size _ _ ((rd_T27 l0 x12_2).f1.f1) from Kd.V_mk ul341_2 ge341_2)
             clear hva_ hvn_ hvc_ ge341_2 ul341_2
             clear hcc341 hce341
             have HR341_2 := Aside0.mk hi341_2
             have HC341_2 := Aside0.mk hl341_2
             clear hi341_2 hl341_2
             replace p341 := eq_true p341
             replace q341 := eq_true q341
             refine start_ (n := 7) (S := fun w' => w'.cell? ⟨gb324, 0, none⟩ = some (.int .i64 t315) ∧ w'.cell? ⟨gb324, 1, none⟩ = some (.int .i64 t316) ∧ w'.cell? ⟨gb324, 2, none⟩ = some (.slice Ao15 t317.length co15) ∧ w'.cell? ⟨gb324, 3, none⟩ = some (.int .i64 t320) ∧ w'.cell? ⟨gb324, 4, none⟩ = some (.int .i64 t321) ∧ w'.cell? ⟨gb324, 5, none⟩ = some (.int .i64 t322) ∧ w'.cell? (ad337.add ((x12_2).toNat * 6)) = some (.int .i64 ((rd_T27 l0 x12_2).f0)) ∧ w'.cell? ⟨(ad337.add ((x12_2).toNat * 6)).block, (ad337.add ((x12_2).toNat * 6)).off + 1, none⟩ = some (.int .i64 ((rd_T27 l0 x12_2).f1.f0)) ∧ w'.cell? ⟨(ad337.add ((x12_2).toNat * 6)).block, (ad337.add ((x12_2).toNat * 6)).off + 2, none⟩ = some (.slice A341_2 ((rd_T27 l0 x12_2).f1.f1).length c341_2) ∧ w'.cell? ⟨(ad337.add ((x12_2).toNat * 6)).block, (ad337.add ((x12_2).toNat * 6)).off + 3, none⟩ = some (.int .i64 ((rd_T27 l0 x12_2).f1.f2)) ∧ w'.cell? ⟨(ad337.add ((x12_2).toNat * 6)).block, (ad337.add ((x12_2).toNat * 6)).off + 4, none⟩ = some (.int .i64 ((rd_T27 l0 x12_2).f1.f3)) ∧ w'.cell? ⟨(ad337.add ((x12_2).toNat * 6)).block, (ad337.add ((x12_2).toNat * 6)).off + 5, none⟩ = some (.int .i64 ((rd_T27 l0 x12_2).f2))) (ds := []) #[false, false, false, false, false, false, false] (by kernel_rfl) rfl rfl ⟨(blk_cell BK324.out 0).trans rfl, (blk_cell BK324.out 1).trans rfl, (blk_cell BK324.out 2).trans rfl, (blk_cell BK324.out 3).trans rfl, (blk_cell BK324.out 4).trans rfl, (blk_cell BK324.out 5).trans rfl, hx341_0, hx341_1, hx341_2, hx341_3, hx341_4, hx341_5⟩ (fun hHeld => ?_)
             generalize w36.drew = w37 at HO_0 HO_1 HO_325002 HO_335002 HL337_2 HO340 BK324 BK334 HB HL341_2 HR341_2 hx341_0 hx341_1 hx341_2 hx341_3 hx341_4 hx341_5 hHeld ⊢
             refine pure_ (i := 0) (N := some 62) (v := ?_) (a' := ?_) #[true, false, false, false, false, false, false] rfl rfl (by kernel_rfl) (fun _ _ _ h => h) (Or.inl ⟨by rfl, ?_⟩) ?_ ?_
             rotate_left
             ·intro w'
              go_simp
              with_reducible rfl
             rotate_left
             ·simp only [Act.put, List.setIfInBounds_toArray, List.set_cons_zero, List.set_cons_succ, i64_w, i32_w]
              rfl
             refine pure_ (i := 1) (N := some 63) (v := ?_) (a' := ?_) #[true, true, false, false, false, false, false] rfl rfl (by kernel_rfl) (fun _ _ _ h => h) (Or.inl ⟨by rfl, ?_⟩) ?_ ?_
             rotate_left
             ·intro w'
              go_simp
              with_reducible rfl
             rotate_left
             ·simp only [Act.put, List.setIfInBounds_toArray, List.set_cons_zero, List.set_cons_succ, i64_w, i32_w]
              rfl
             refine pure_ (i := 2) (N := some 64) (v := ?_) (a' := ?_) #[true, true, true, false, false, false, false] rfl rfl (by kernel_rfl) (fun _ _ _ h => h) (Or.inl ⟨by rfl, ?_⟩) ?_ ?_
             rotate_left
             ·intro w'
              go_simp
              with_reducible rfl
             rotate_left
             ·simp only [Act.put, List.setIfInBounds_toArray, List.set_cons_zero, List.set_cons_succ, i64_w, i32_w]
              rfl
             refine take_ (i := 3) (N := some 65) (v := ?_) (a' := ?_) #[true, true, true, true, false, false, false] rfl rfl (by kernel_rfl) (fun _ _ _ h => h) (Or.inl ⟨by rfl, ?_⟩) hHeld ?_ ?_
             rotate_left
             ·rintro w' ⟨s0, s1, s2, s3, s4, s5, s6, s7, s8, s9, s10, s11⟩
              go_simp
              with_reducible rfl
             rotate_left
             ·simp only [Act.put, List.setIfInBounds_toArray, List.set_cons_zero, List.set_cons_succ, i64_w, i32_w]
              rfl
             refine take_ (i := 4) (N := some 66) (v := ?_) (a' := ?_) #[true, true, true, true, true, false, false] rfl rfl (by kernel_rfl) (fun _ _ _ h => h) (Or.inl ⟨by rfl, ?_⟩) hHeld ?_ ?_
             rotate_left
             ·rintro w' ⟨s0, s1, s2, s3, s4, s5, s6, s7, s8, s9, s10, s11⟩
              go_simp
              with_reducible rfl
             rotate_left
             ·simp only [Act.put, List.setIfInBounds_toArray, List.set_cons_zero, List.set_cons_succ, i64_w, i32_w]
              rfl
             refine one_ (i := 5) (N := some 67) #[true, true, true, true, true, true, false] rfl rfl (by kernel_rfl) (by decide) (fun K hK => ?_)
             refine goes_ Try.func10 (by kernel_rfl) rfl #[.agg #[.int .i64 ((rd_T27 l0 x12_2).f0), .int .i64 ((rd_T27 l0 x12_2).f1.f0), .slice A341_2 ((rd_T27 l0 x12_2).f1.f1).length c341_2, .int .i64 ((rd_T27 l0 x12_2).f1.f2), .int .i64 ((rd_T27 l0 x12_2).f1.f3), .int .i64 ((rd_T27 l0 x12_2).f2)], .agg #[.int .i64 t315, .int .i64 t316, .slice Ao15 t317.length co15, .int .i64 t320, .int .i64 t321, .int .i64 t322]] (by rfl) rfl rfl (by (try simp only [List.map_toArray, List.map_cons, List.map_nil]); first | done | rfl | (simp only [List.length_drop, List.length_take]; rfl)) ?_
             with_reducible refine (route_Compare.calls ((rd_T27 l0 x12_2).f0) ((rd_T27 l0 x12_2).f1.f0) _ _ ((rd_T27 l0 x12_2).f1.f1) ((rd_T27 l0 x12_2).f1.f2) ((rd_T27 l0 x12_2).f1.f3) ((rd_T27 l0 x12_2).f2) t315 t316 _ _ t317 t320 t321 t322 t342 _ ?side1 ?side2 ?side3 ?side4 A34.out).mono ?_
             (case side1 => repeat (first | exact (by repeat (first | (with_reducible exact HR341_2.out) | (with_reducible refine Kd.C_alloc ?_ _) | (with_reducible refine Kd.C_drewN ?_ _) | (with_reducible refine Kd.C_drew ?_) | exact HR341_2.out)) | (with_reducible refine Kd.C_alloc ?_ _) | (with_reducible refine Kd.C_drewN ?_ _) | (with_reducible refine Kd.C_drew ?_)))
             (case side2 => exact HC341_2.out)
             (case side3 => repeat (first | exact (Kd.V_reads' HO_325002.out).2.2 | (with_reducible refine Kd.C_alloc ?_ _) | (with_reducible refine Kd.C_drewN ?_ _) | (with_reducible refine Kd.C_drew ?_)))
             (case side4 => exact (Kd.V_reads' HO_325002.out).2.1)
             rintro e w38 ⟨rfl, hb⟩
             have HS6_ := (hb.cell (World.block_lt_of_cell? _ _ (hHeld.2.2.2.2.2.2.1))).trans (hHeld.2.2.2.2.2.2.1)
             have HS7_ := (hb.cell (World.block_lt_of_cell? _ _ (hHeld.2.2.2.2.2.2.2.1))).trans (hHeld.2.2.2.2.2.2.2.1)
             have HS8_ := (hb.cell (World.block_lt_of_cell? _ _ (hHeld.2.2.2.2.2.2.2.2.1))).trans (hHeld.2.2.2.2.2.2.2.2.1)
             have HS9_ := (hb.cell (World.block_lt_of_cell? _ _ (hHeld.2.2.2.2.2.2.2.2.2.1))).trans (hHeld.2.2.2.2.2.2.2.2.2.1)
             have HS10_ := (hb.cell (World.block_lt_of_cell? _ _ (hHeld.2.2.2.2.2.2.2.2.2.2.1))).trans (hHeld.2.2.2.2.2.2.2.2.2.2.1)
             have HS11_ := (hb.cell (World.block_lt_of_cell? _ _ (hHeld.2.2.2.2.2.2.2.2.2.2.2))).trans (hHeld.2.2.2.2.2.2.2.2.2.2.2)
             refine ⟨_, rfl, ?_⟩
             have n0_ := Aside0.mk (Kd.V_below (by (with_reducible repeat first|apply vA6|apply vN6|apply vD6); exact HO_0.out) hb)
             have n1_ := Aside0.mk (Kd.V_below (by (with_reducible repeat first|apply vA6|apply vN6|apply vD6); exact HO_1.out) hb)
             have n2_ := Aside0.mk (Kd.V_below (by (with_reducible repeat first|apply vA6|apply vN6|apply vD6); exact HO_325002.out) hb)
             have n3_ := Aside0.mk (Kd.V_below (by (with_reducible repeat first|apply vA6|apply vN6|apply vD6); exact HO_335002.out) hb)
             have n4_ := Aside0.mk (Kd.V_below (by (with_reducible repeat first|apply vA6|apply vN6|apply vD6); exact HL337_2.out) hb)
             have n5_ := Aside0.mk (Kd.N_below (by (with_reducible repeat (first | apply Kd.N_alloc | apply Kd.N_drewN | apply Kd.N_drew)); exact HO340.out) hb)
             have n6_ := Aside0.mk (Kd.V_below (by (with_reducible repeat first|apply vA6|apply vN6|apply vD6); exact HL341_2.out) hb)
             have n7_ := Aside0.mk (blk_below (g := gb324) (o := .cells #[.int .i64 t315, .int .i64 t316, .slice Ao15 t317.length co15, .int .i64 t320, .int .i64 t321, .int .i64 t322] 27 (0, 0)) (by (with_reducible repeat first|apply zN6|apply zD6|apply zA6); exact BK324.out) hb)
             have n8_ := Aside0.mk (blk_below (g := gb334) (o := .cells #[.int .i64 t325, .int .i64 t326, .slice Ao21 t327.length co21, .int .i64 t330, .int .i64 t331, .int .i64 t332] 27 (0, 0)) (by (with_reducible repeat first|apply zN6|apply zD6|apply zA6); exact BK334.out) hb)
             have n9_ := Aside0.mk (Kd.C_below (by repeat (first | (with_reducible exact HR341_2.out) | (with_reducible refine Kd.C_alloc ?_ _) | (with_reducible refine Kd.C_drewN ?_ _) | (with_reducible refine Kd.C_drew ?_) | exact HR341_2.out)) hb)
             have n10_ := Aside0.mk (below_step (by repeat (first | (with_reducible first | exact HB.out | apply below_alloc | apply pw_below_drewN | apply below_drew1 | refine below_set ?_ GE324.out | refine below_set ?_ GE334.out) | exact HB.out)) hb)
             clear HO_0
             clear HO_1
             clear HO_325002
             clear HO_335002
             clear HL337_2
             clear HO340
             clear HL341_2
             clear BK324
             clear BK334
             clear HR341_2
             clear HB
             have HO_0 := n0_
             have HO_1 := n1_
             have HO_325002 := n2_
             have HO_335002 := n3_
             have HL337_2 := n4_
             have HO340 := n5_
             have HL341_2 := n6_
             have BK324 := n7_
             have BK334 := n8_
             have HR341_2 := n9_
             have HB := n10_
             clear n0_ n1_ n2_ n3_ n4_ n5_ n6_ n7_ n8_ n9_ n10_
             (try clear hb)
             (try clear hb2)
             (try clear hk)
             (try clear hi)
             refine hK.out _ _ ⟨(blk_cell BK324.out 0).trans rfl, (blk_cell BK324.out 1).trans rfl, (blk_cell BK324.out 2).trans rfl, (blk_cell BK324.out 3).trans rfl, (blk_cell BK324.out 4).trans rfl, (blk_cell BK324.out 5).trans rfl, HS6_, HS7_, HS8_, HS9_, HS10_, HS11_⟩ (fun hHeld => ?_)
             clear hK K
             refine norm_ (a' := ?_) ?_ ?_
             rotate_left
             ·show Act.put _ (some 67) _ = _
              simp only [Act.put, List.setIfInBounds_toArray, List.set_cons_zero, List.set_cons_succ, i64_w, i32_w]
              rfl
             refine pure_ (i := 6) (N := some 68) (v := ?_) (a' := ?_) #[true, true, true, true, true, true, true] rfl rfl (by kernel_rfl) (fun _ _ _ h => h) (Or.inl ⟨by rfl, ?_⟩) ?_ ?_
             rotate_left
             ·intro w'
              go_simp
              with_reducible rfl
             rotate_left
             ·simp only [Act.put, List.setIfInBounds_toArray, List.set_cons_zero, List.set_cons_succ, i64_w, i32_w]
              rfl
             refine done_ (by kernel_rfl) ?_
             try go_wp2
             go_roundg kj22
             case measure => have := HJ3.out; have := HK2.out; have := HJ22.out; omega
             case rel => exact ⟨(x10_22), (y338), (wrap64 (x12_2 - 1)), (by first | rfl | (simp; done) | (simp [*]; done)), (by first | rfl | (simp; done) | (simp [*]; done)), H', ⟨by have := HJ3.out; have := HK2.out; have := HJ22.out; omega⟩, ⟨by (with_reducible repeat first|apply vA6|apply vN6|apply vD6); exact Kd.V_mono HO_0.out (fun _ hk => ⟨hk.1.1, ⟨hk.2, ⟨hk.1.2.1, hk.1.2.2⟩⟩⟩)⟩, ⟨by (with_reducible repeat first|apply vA6|apply vN6|apply vD6); exact Kd.V_mono HO_1.out (fun _ hk => ⟨hk.1.1, ⟨hk.2, ⟨hk.1.2.1, hk.1.2.2⟩⟩⟩)⟩, ⟨by (with_reducible repeat (first | apply Kd.N_alloc | apply Kd.N_drewN | apply Kd.N_drew)); exact HO340.out⟩, ⟨by (with_reducible repeat first|apply vA6|apply vN6|apply vD6); exact Kd.V_mono HO_325002.out (fun _ hk => ⟨hk.1.1, ⟨hk.2, ⟨hk.1.2.1, hk.1.2.2⟩⟩⟩)⟩, ⟨by (with_reducible repeat first|apply vA6|apply vN6|apply vD6); exact Kd.V_mono HO_335002.out (fun _ hk => ⟨hk.1.1, ⟨hk.2, ⟨hk.1.2.1, hk.1.2.2⟩⟩⟩)⟩, ⟨by (with_reducible repeat first|apply zN6|apply zD6|apply zA6); exact BK324.out⟩, ⟨by (with_reducible repeat first|apply zN6|apply zD6|apply zA6); exact BK334.out⟩, ⟨by repeat (first | (with_reducible first | exact HB.out | apply below_alloc | apply pw_below_drewN | apply below_drew1 | refine below_set ?_ GE324.out | refine below_set ?_ GE334.out) | exact HB.out)⟩⟩
           ·rw [if_neg c33] at H
            exact absurd H (by simp)
          ·rw [if_neg c32] at H
           exact absurd H (by simp)
         ·rw [if_neg c31] at H
          exact absurd H (by simp)
      ·rw [if_neg c22] at H
       have c22b0 : decide (0 ≤ x12_2) = false := decide_eq_false c22
       clear c22
       have HC39 := Aside0.mk H
       clear H
       go_upto_region 15 with (fail)
       go_cut [78] (fun v78 wc => ∃ (kq : Nat) (x78_38 : Bool), v78 = .bool x78_38 ∧ Aside0 (ridgewaylaw09_RouteBest.j3 kq l0 l1 t312 t323 t333 x11_2 x78_38 t315 t316 t317 t320 t321 t322 t325 t326 t327 t330 t331 t332 = some r) ∧ Aside0 (kq ≤ k2) ∧ Aside0 (Kd.V k27 27 wc w.heap.size (fun k_ => ((P0_ k_ ∨ P1_ k_) ∨ w.heap.size ≤ k_) ∧ some k_ ≠ (u11 : Value).ownBlock ∧ k_ ≠ gb324 ∧ k_ ≠ gb334) (.slice A0 l0.length c0) l0) ∧ Aside0 (Kd.V k27 27 wc w.heap.size (fun k_ => ((P0_ k_ ∨ P1_ k_) ∨ w.heap.size ≤ k_) ∧ some k_ ≠ (u11 : Value).ownBlock ∧ k_ ≠ gb324 ∧ k_ ≠ gb334) (.slice A1 l1.length c1) l1) ∧ Aside0 (Kd.N k27 27 wc w.heap.size (fun k_ => ((P0_ k_ ∨ P1_ k_) ∨ w.heap.size ≤ k_) ∧ k_ ≠ gb324 ∧ k_ ≠ gb334) u11 x11_2) ∧ Aside0 (Kd.V (Kd.int .i64) 3 wc w.heap.size (fun k_ => ((P0_ k_ ∨ P1_ k_) ∨ w.heap.size ≤ k_) ∧ some k_ ≠ (u11 : Value).ownBlock ∧ k_ ≠ gb324 ∧ k_ ≠ gb334) (.slice Ao15 t317.length co15) t317) ∧ Aside0 (Kd.V (Kd.int .i64) 3 wc w.heap.size (fun k_ => ((P0_ k_ ∨ P1_ k_) ∨ w.heap.size ≤ k_) ∧ some k_ ≠ (u11 : Value).ownBlock ∧ k_ ≠ gb324 ∧ k_ ≠ gb334) (.slice Ao21 t327.length co21) t327) ∧ Aside0 (wc.heap[gb324]? = some (.cells #[.int .i64 t315, .int .i64 t316, (.slice Ao15 t317.length co15), .int .i64 t320, .int .i64 t321, .int .i64 t322] 27 (0, 0))) ∧ Aside0 (wc.heap[gb334]? = some (.cells #[.int .i64 t325, .int .i64 t326, (.slice Ao21 t327.length co21), .int .i64 t330, .int .i64 t331, .int .i64 t332] 27 (0, 0))) ∧ Aside0 (Below w.heap.size w wc))
       case first =>
        have H := HC39.out
        clear HC39
        by_cases c40 : (t323 != (decide ((l0.length : Int) > 0))) = true
        ·rw [if_pos c40] at H
         have c40b0 : (t323 != (decide ((l0.length : Int) > 0))) = true := c40
         (try (have c40b1 : decide (t323 = (decide ((l0.length : Int) > 0))) = false := by simpa using c40))
         (try (have c40b2 : (t323 == (decide ((l0.length : Int) > 0))) = false := by simpa using c40))
         (try (have c40b3 : ¬ (t323 = (decide ((l0.length : Int) > 0))) := by simpa using c40))
         clear c40
         have c40e : ¬ (t323 = decide (0 < l0.length)) := by have := c40b0; simpa using this
         (try clear c40b0); (try clear c40b1); (try clear c40b2); (try clear c40b3)
         have H' := Aside0.mk H
         clear H
         go_wp2
         all_goals (try (rename_i hq_; first | exact absurd c40e hq_ | exact absurd hq_ c40e | rw [← hq_]))
         go_meet
         case rel => exact ⟨_, (true), (by first | rfl | (simp; done) | (simp [*]; done) | (simp [bne, *]; done) | (rw [c40e]; cases decide (0 < l0.length) <;> cases (‹Bool›) <;> rfl)), H', ⟨by have := HJ3.out; have := HK2.out; first | omega | exact Nat.le_refl _⟩, ⟨by (with_reducible repeat first|apply vA6|apply vN6|apply vD6); exact HO_0.out⟩, ⟨by (with_reducible repeat first|apply vA6|apply vN6|apply vD6); exact HO_1.out⟩, ⟨by (with_reducible repeat (first | apply Kd.N_alloc | apply Kd.N_drewN | apply Kd.N_drew)); exact HO_11.out⟩, ⟨by (with_reducible repeat first|apply vA6|apply vN6|apply vD6); exact HO_325002.out⟩, ⟨by (with_reducible repeat first|apply vA6|apply vN6|apply vD6); exact HO_335002.out⟩, ⟨by (with_reducible repeat first|apply zN6|apply zD6|apply zA6); exact BK324.out⟩, ⟨by (with_reducible repeat first|apply zN6|apply zD6|apply zA6); exact BK334.out⟩, ⟨by repeat (first | (with_reducible first | exact HB.out | apply below_alloc | apply pw_below_drewN | apply below_drew1 | refine below_set ?_ GE324.out | refine below_set ?_ GE334.out) | exact HB.out)⟩⟩
        ·rw [if_neg c40] at H
         have c40b0 : (t323 != (decide ((l0.length : Int) > 0))) = false := by simpa using c40
         (try (have c40b1 : decide (t323 = (decide ((l0.length : Int) > 0))) = true := by simpa using c40))
         (try (have c40b2 : (t323 == (decide ((l0.length : Int) > 0))) = true := by simpa using c40))
         clear c40
         have c40e : t323 = decide (0 < l0.length) := by have := c40b0; simpa using this
         (try clear c40b0); (try clear c40b1); (try clear c40b2); (try clear c40b3)
         have H' := Aside0.mk H
         clear H
         go_wp2
         all_goals (try (rename_i hq_; first | exact absurd c40e hq_ | exact absurd hq_ c40e | rw [← hq_]))
         go_meet
         case rel => exact ⟨_, ((t323 != x10_2)), (by first | rfl | (simp; done) | (simp [*]; done) | (simp [bne, *]; done) | (rw [c40e]; cases decide (0 < l0.length) <;> cases (‹Bool›) <;> rfl)), H', ⟨by have := HJ3.out; have := HK2.out; first | omega | exact Nat.le_refl _⟩, ⟨by (with_reducible repeat first|apply vA6|apply vN6|apply vD6); exact HO_0.out⟩, ⟨by (with_reducible repeat first|apply vA6|apply vN6|apply vD6); exact HO_1.out⟩, ⟨by (with_reducible repeat (first | apply Kd.N_alloc | apply Kd.N_drewN | apply Kd.N_drew)); exact HO_11.out⟩, ⟨by (with_reducible repeat first|apply vA6|apply vN6|apply vD6); exact HO_325002.out⟩, ⟨by (with_reducible repeat first|apply vA6|apply vN6|apply vD6); exact HO_335002.out⟩, ⟨by (with_reducible repeat first|apply zN6|apply zD6|apply zA6); exact BK324.out⟩, ⟨by (with_reducible repeat first|apply zN6|apply zD6|apply zA6); exact BK334.out⟩, ⟨by repeat (first | (with_reducible first | exact HB.out | apply below_alloc | apply pw_below_drewN | apply below_drew1 | refine below_set ?_ GE324.out | refine below_set ?_ GE334.out) | exact HB.out)⟩⟩
       case rest =>
        clear HC39
        try clear c1
        try clear c2
        try clear p2
        try clear c3
        try clear p3
        try clear q3
        try clear hx3
        try clear c4
        try clear c6
        try clear p6
        try clear c7
        try clear c8
        try clear c9
        try clear c10
        try clear c12
        try clear c16
        try clear c19
        try clear c22
        try clear c22b0
        try clear c24
        try clear c26
        try clear c26b0
        try clear c27
        try clear c27b0
        try clear c31
        try clear c31b0
        try clear c32
        try clear c32b0
        try clear c33
        try clear p33
        try clear q33
        try clear hx33
        try clear c34
        try clear p34
        try clear q34
        try clear hx34
        try clear c35
        try clear c35b0
        try clear c40
        try clear c40b0
        try clear c40b1
        try clear c40b2
        try clear hcz14_0
        try clear hcz14_1
        try clear hcz14_2
        try clear hcz14_3
        try clear hcz14_4
        try clear hcz14_5
        try clear hcz20_0
        try clear hcz20_1
        try clear hcz20_2
        try clear hcz20_3
        try clear hcz20_4
        try clear hcz20_5
        try clear hfz14_0
        try clear hfz14_1
        try clear hfz14_2
        try clear hfz14_3
        try clear hfz14_4
        try clear hfz14_5
        try clear hfz20_0
        try clear hfz20_1
        try clear hfz20_2
        try clear hfz20_3
        try clear hfz20_4
        try clear hfz20_5
        try clear hx335_0
        try clear hx335_1
        try clear hx335_2
        try clear hx335_3
        try clear hx335_4
        try clear hx335_5
        try clear hx337_0
        try clear hx337_1
        try clear hx337_2
        try clear hx337_3
        try clear hx337_4
        try clear hx337_5
        try clear hx341_0
        try clear hx341_1
        try clear hx341_2
        try clear hx341_3
        try clear hx341_4
        try clear hx341_5
        try clear p2
        try clear p3
        try clear p335
        try clear p337
        try clear p341
        try clear p6
        try clear q3
        try clear q335
        try clear q337
        try clear q341
        obtain ⟨kq, x78_38, rfl, HA, HJ38, HO_0, HO_1, HO_11, HO_325002, HO_335002, BK324, BK334, HB⟩ := hcut
        cases kq with
        | zero => exact absurd HA.out (by simp [ridgewaylaw09_RouteBest.j3])
        | succ kj38 =>
         have H := HA.out
         clear HA
         simp only [ridgewaylaw09_RouteBest.j3] at H
         by_cases c41 : x78_38 = true
         ·subst c41
          have H1 : (none) = some r := by rw [if_pos rfl] at H; exact H
          clear H
          have H := H1
          clear H1
          exact absurd H (by simp)
         ·replace c41 := Bool.eq_false_iff.mpr c41
          subst c41
          have H1 : (if t323 = true then (if 0 < (l0.length : Int) then (if x11_2.length < 2199023255552 then ((route_Best.f kj38 (x11_2 ++ [(⟨(rd_T27 l0 0).f0, (⟨(rd_T27 l0 0).f1.f0, (rd_T27 l0 0).f1.f1, (rd_T27 l0 0).f1.f2, (rd_T27 l0 0).f1.f3⟩ : S25), (rd_T27 l0 0).f2⟩ : S27)])).bind fun bt348 => ((some (([] : List (S27)) : List (S27))).bind fun y358 => (if y358.length + l0.length < 2199023255552 then ((some (y358 ++ l0 : List (S27))).bind fun y361 => (if y361.length + l1.length < 2199023255552 then ((route_Best.f kj38 (y361 ++ l1)).bind fun bt367 => (if t333 = true then ((route_Compare.f t325 t326 t327 t330 t331 t332 t315 t316 t317 t320 t321 t322).bind fun t378 => (ridgewaylaw09_RouteBest.j4 kj38 t312 bt348.2.2.2.2.2.2 bt367.2.2.2.2.2.2 (decide (t378 < 0)) t315 t316 t317 t320 t321 t322 t325 t326 t327 t330 t331 t332 bt348.1 bt348.2.1 bt348.2.2.1 bt348.2.2.2.1 bt348.2.2.2.2.1 bt348.2.2.2.2.2.1 bt367.1 bt367.2.1 bt367.2.2.1 bt367.2.2.2.1 bt367.2.2.2.2.1 bt367.2.2.2.2.2.1 t315 t316 t317 t320 t321 t322)) else (ridgewaylaw09_RouteBest.j4 kj38 t312 bt348.2.2.2.2.2.2 bt367.2.2.2.2.2.2 false t315 t316 t317 t320 t321 t322 t325 t326 t327 t330 t331 t332 bt348.1 bt348.2.1 bt348.2.2.1 bt348.2.2.2.1 bt348.2.2.2.2.1 bt348.2.2.2.2.2.1 bt367.1 bt367.2.1 bt367.2.2.1 bt367.2.2.2.1 bt367.2.2.2.2.1 bt367.2.2.2.2.2.1 t315 t316 t317 t320 t321 t322))) else (none))) else (none)))) else (none)) else (none)) else (if t312 = true then ((route_Same.f t315 t316 t317 t320 t321 t322 0 0 ([] : List Int) 0 0 0).bind fun t343 => (some t343)) else (none))) = some r := by rw [if_neg (show ¬ (false = true) by decide)] at H; exact H
          clear H
          have H := H1
          clear H1
          by_cases c42 : t323 = true
          ·subst c42
           have H1 : (if 0 < (l0.length : Int) then (if x11_2.length < 2199023255552 then ((route_Best.f kj38 (x11_2 ++ [(⟨(rd_T27 l0 0).f0, (⟨(rd_T27 l0 0).f1.f0, (rd_T27 l0 0).f1.f1, (rd_T27 l0 0).f1.f2, (rd_T27 l0 0).f1.f3⟩ : S25), (rd_T27 l0 0).f2⟩ : S27)])).bind fun bt348 => ((some (([] : List (S27)) : List (S27))).bind fun y358 => (if y358.length + l0.length < 2199023255552 then ((some (y358 ++ l0 : List (S27))).bind fun y361 => (if y361.length + l1.length < 2199023255552 then ((route_Best.f kj38 (y361 ++ l1)).bind fun bt367 => (if t333 = true then ((route_Compare.f t325 t326 t327 t330 t331 t332 t315 t316 t317 t320 t321 t322).bind fun t378 => (ridgewaylaw09_RouteBest.j4 kj38 t312 bt348.2.2.2.2.2.2 bt367.2.2.2.2.2.2 (decide (t378 < 0)) t315 t316 t317 t320 t321 t322 t325 t326 t327 t330 t331 t332 bt348.1 bt348.2.1 bt348.2.2.1 bt348.2.2.2.1 bt348.2.2.2.2.1 bt348.2.2.2.2.2.1 bt367.1 bt367.2.1 bt367.2.2.1 bt367.2.2.2.1 bt367.2.2.2.2.1 bt367.2.2.2.2.2.1 t315 t316 t317 t320 t321 t322)) else (ridgewaylaw09_RouteBest.j4 kj38 t312 bt348.2.2.2.2.2.2 bt367.2.2.2.2.2.2 false t315 t316 t317 t320 t321 t322 t325 t326 t327 t330 t331 t332 bt348.1 bt348.2.1 bt348.2.2.1 bt348.2.2.2.1 bt348.2.2.2.2.1 bt348.2.2.2.2.2.1 bt367.1 bt367.2.1 bt367.2.2.1 bt367.2.2.2.1 bt367.2.2.2.2.1 bt367.2.2.2.2.2.1 t315 t316 t317 t320 t321 t322))) else (none))) else (none)))) else (none)) else (none)) = some r := by rw [if_pos rfl] at H; exact H
           clear H
           have H := H1
           clear H1
           by_cases c43 : 0 < (l0.length : Int)
           ·rw [if_pos c43] at H
            have c43b0 : decide (0 < (l0.length : Int)) = true := decide_eq_true c43
            have c43b1 : decide (0 < l0.length) = true := decide_eq_true (by omega)
            clear c43
            by_cases c44 : x11_2.length < 2199023255552
            ·rw [if_pos c44] at H
             have LMc44 := Aside0.mk c44
             clear c44
             obtain ⟨y345, hy345⟩ : ∃ y_ : List (S27), y_ = (x11_2 ++ [(⟨(rd_T27 l0 0).f0, (⟨(rd_T27 l0 0).f1.f0, (rd_T27 l0 0).f1.f1, (rd_T27 l0 0).f1.f2, (rd_T27 l0 0).f1.f3⟩ : S25), (rd_T27 l0 0).f2⟩ : S27)]) := ⟨_, rfl⟩
             replace H : ((route_Best.f kj38 y345).bind fun bt348 => ((some (([] : List (S27)) : List (S27))).bind fun y358 => (if y358.length + l0.length < 2199023255552 then ((some (y358 ++ l0 : List (S27))).bind fun y361 => (if y361.length + l1.length < 2199023255552 then ((route_Best.f kj38 (y361 ++ l1)).bind fun bt367 => (if t333 = true then ((route_Compare.f t325 t326 t327 t330 t331 t332 t315 t316 t317 t320 t321 t322).bind fun t378 => (ridgewaylaw09_RouteBest.j4 kj38 t312 bt348.2.2.2.2.2.2 bt367.2.2.2.2.2.2 (decide (t378 < 0)) t315 t316 t317 t320 t321 t322 t325 t326 t327 t330 t331 t332 bt348.1 bt348.2.1 bt348.2.2.1 bt348.2.2.2.1 bt348.2.2.2.2.1 bt348.2.2.2.2.2.1 bt367.1 bt367.2.1 bt367.2.2.1 bt367.2.2.2.1 bt367.2.2.2.2.1 bt367.2.2.2.2.2.1 t315 t316 t317 t320 t321 t322)) else (ridgewaylaw09_RouteBest.j4 kj38 t312 bt348.2.2.2.2.2.2 bt367.2.2.2.2.2.2 false t315 t316 t317 t320 t321 t322 t325 t326 t327 t330 t331 t332 bt348.1 bt348.2.1 bt348.2.2.1 bt348.2.2.2.1 bt348.2.2.2.2.1 bt348.2.2.2.2.2.1 bt367.1 bt367.2.1 bt367.2.2.1 bt367.2.2.2.1 bt367.2.2.2.2.1 bt367.2.2.2.2.2.1 t315 t316 t317 t320 t321 t322))) else (none))) else (none)))) = some r := by first | (rw [hy345]; with_reducible exact H) | (have H2_ := (Option.bind_some _ _).symm.trans H; rw [hy345]; with_reducible exact H2_) | (have H2_ := (Option.bind_some _ _).symm.trans H; with_reducible exact H2_) | with_reducible exact H | (rw [hy345]; exact H) | exact H
             have Ny345 := Aside0.mk hy345
             clear hy345
             replace H := Option.bind_eq_some_iff.mp H
             obtain ⟨⟨t348, t349, t350, t353, t354, t355, t356⟩, A450, H⟩ := H
             replace H : ((some (([] : List (S27)) : List (S27))).bind fun y358 => (if y358.length + l0.length < 2199023255552 then ((some (y358 ++ l0 : List (S27))).bind fun y361 => (if y361.length + l1.length < 2199023255552 then ((route_Best.f kj38 (y361 ++ l1)).bind fun bt367 => (if t333 = true then ((route_Compare.f t325 t326 t327 t330 t331 t332 t315 t316 t317 t320 t321 t322).bind fun t378 => (ridgewaylaw09_RouteBest.j4 kj38 t312 t356 bt367.2.2.2.2.2.2 (decide (t378 < 0)) t315 t316 t317 t320 t321 t322 t325 t326 t327 t330 t331 t332 t348 t349 t350 t353 t354 t355 bt367.1 bt367.2.1 bt367.2.2.1 bt367.2.2.2.1 bt367.2.2.2.2.1 bt367.2.2.2.2.2.1 t315 t316 t317 t320 t321 t322)) else (ridgewaylaw09_RouteBest.j4 kj38 t312 t356 bt367.2.2.2.2.2.2 false t315 t316 t317 t320 t321 t322 t325 t326 t327 t330 t331 t332 t348 t349 t350 t353 t354 t355 bt367.1 bt367.2.1 bt367.2.2.1 bt367.2.2.2.1 bt367.2.2.2.2.1 bt367.2.2.2.2.2.1 t315 t316 t317 t320 t321 t322))) else (none))) else (none))) = some r := H
             have A45 := Aside0.mk A450
             clear A450
             obtain ⟨y358, hy358⟩ : ∃ y_ : List (S27), y_ = (([] : List (S27))) := ⟨_, rfl⟩
             replace H : (if y358.length + l0.length < 2199023255552 then ((some (y358 ++ l0 : List (S27))).bind fun y361 => (if y361.length + l1.length < 2199023255552 then ((route_Best.f kj38 (y361 ++ l1)).bind fun bt367 => (if t333 = true then ((route_Compare.f t325 t326 t327 t330 t331 t332 t315 t316 t317 t320 t321 t322).bind fun t378 => (ridgewaylaw09_RouteBest.j4 kj38 t312 t356 bt367.2.2.2.2.2.2 (decide (t378 < 0)) t315 t316 t317 t320 t321 t322 t325 t326 t327 t330 t331 t332 t348 t349 t350 t353 t354 t355 bt367.1 bt367.2.1 bt367.2.2.1 bt367.2.2.2.1 bt367.2.2.2.2.1 bt367.2.2.2.2.2.1 t315 t316 t317 t320 t321 t322)) else (ridgewaylaw09_RouteBest.j4 kj38 t312 t356 bt367.2.2.2.2.2.2 false t315 t316 t317 t320 t321 t322 t325 t326 t327 t330 t331 t332 t348 t349 t350 t353 t354 t355 bt367.1 bt367.2.1 bt367.2.2.1 bt367.2.2.2.1 bt367.2.2.2.2.1 bt367.2.2.2.2.2.1 t315 t316 t317 t320 t321 t322))) else (none))) else (none)) = some r := by first | (rw [hy358]; with_reducible exact H) | (have H2_ := (Option.bind_some _ _).symm.trans H; rw [hy358]; with_reducible exact H2_) | (have H2_ := (Option.bind_some _ _).symm.trans H; with_reducible exact H2_) | with_reducible exact H | (rw [hy358]; exact H) | exact H
             have Ny358 := Aside0.mk hy358
             clear hy358
             by_cases c46 : y358.length + l0.length < 2199023255552
             ·rw [if_pos c46] at H
              have LMc46 := Aside0.mk c46
              clear c46
              obtain ⟨y361, hy361⟩ : ∃ y_ : List (S27), y_ = (y358 ++ l0) := ⟨_, rfl⟩
              replace H : (if y361.length + l1.length < 2199023255552 then ((route_Best.f kj38 (y361 ++ l1)).bind fun bt367 => (if t333 = true then ((route_Compare.f t325 t326 t327 t330 t331 t332 t315 t316 t317 t320 t321 t322).bind fun t378 => (ridgewaylaw09_RouteBest.j4 kj38 t312 t356 bt367.2.2.2.2.2.2 (decide (t378 < 0)) t315 t316 t317 t320 t321 t322 t325 t326 t327 t330 t331 t332 t348 t349 t350 t353 t354 t355 bt367.1 bt367.2.1 bt367.2.2.1 bt367.2.2.2.1 bt367.2.2.2.2.1 bt367.2.2.2.2.2.1 t315 t316 t317 t320 t321 t322)) else (ridgewaylaw09_RouteBest.j4 kj38 t312 t356 bt367.2.2.2.2.2.2 false t315 t316 t317 t320 t321 t322 t325 t326 t327 t330 t331 t332 t348 t349 t350 t353 t354 t355 bt367.1 bt367.2.1 bt367.2.2.1 bt367.2.2.2.1 bt367.2.2.2.2.1 bt367.2.2.2.2.2.1 t315 t316 t317 t320 t321 t322))) else (none)) = some r := by first | (rw [hy361]; with_reducible exact H) | (have H2_ := (Option.bind_some _ _).symm.trans H; rw [hy361]; with_reducible exact H2_) | (have H2_ := (Option.bind_some _ _).symm.trans H; with_reducible exact H2_) | with_reducible exact H | (rw [hy361]; exact H) | exact H
              have Ny361 := Aside0.mk hy361
              clear hy361
              by_cases c47 : y361.length + l1.length < 2199023255552
              ·rw [if_pos c47] at H
               have LMc47 := Aside0.mk c47
               clear c47
               obtain ⟨y364, hy364⟩ : ∃ y_ : List (S27), y_ = (y361 ++ l1) := ⟨_, rfl⟩
               replace H : ((route_Best.f kj38 y364).bind fun bt367 => (if t333 = true then ((route_Compare.f t325 t326 t327 t330 t331 t332 t315 t316 t317 t320 t321 t322).bind fun t378 => (ridgewaylaw09_RouteBest.j4 kj38 t312 t356 bt367.2.2.2.2.2.2 (decide (t378 < 0)) t315 t316 t317 t320 t321 t322 t325 t326 t327 t330 t331 t332 t348 t349 t350 t353 t354 t355 bt367.1 bt367.2.1 bt367.2.2.1 bt367.2.2.2.1 bt367.2.2.2.2.1 bt367.2.2.2.2.2.1 t315 t316 t317 t320 t321 t322)) else (ridgewaylaw09_RouteBest.j4 kj38 t312 t356 bt367.2.2.2.2.2.2 false t315 t316 t317 t320 t321 t322 t325 t326 t327 t330 t331 t332 t348 t349 t350 t353 t354 t355 bt367.1 bt367.2.1 bt367.2.2.1 bt367.2.2.2.1 bt367.2.2.2.2.1 bt367.2.2.2.2.2.1 t315 t316 t317 t320 t321 t322))) = some r := by first | (rw [hy364]; with_reducible exact H) | (have H2_ := (Option.bind_some _ _).symm.trans H; rw [hy364]; with_reducible exact H2_) | (have H2_ := (Option.bind_some _ _).symm.trans H; with_reducible exact H2_) | with_reducible exact H | (rw [hy364]; exact H) | exact H
               have Ny364 := Aside0.mk hy364
               clear hy364
               replace H := Option.bind_eq_some_iff.mp H
               obtain ⟨⟨t367, t368, t369, t372, t373, t374, t375⟩, A480, H⟩ := H
               replace H : (if t333 = true then ((route_Compare.f t325 t326 t327 t330 t331 t332 t315 t316 t317 t320 t321 t322).bind fun t378 => (ridgewaylaw09_RouteBest.j4 kj38 t312 t356 t375 (decide (t378 < 0)) t315 t316 t317 t320 t321 t322 t325 t326 t327 t330 t331 t332 t348 t349 t350 t353 t354 t355 t367 t368 t369 t372 t373 t374 t315 t316 t317 t320 t321 t322)) else (ridgewaylaw09_RouteBest.j4 kj38 t312 t356 t375 false t315 t316 t317 t320 t321 t322 t325 t326 t327 t330 t331 t332 t348 t349 t350 t353 t354 t355 t367 t368 t369 t372 t373 t374 t315 t316 t317 t320 t321 t322)) = some r := H
               have A48 := Aside0.mk A480
               clear A480
               have HC49 := Aside0.mk H
               clear H
               have p344 : 0 ≤ (0 : Int) := (by omega)
               have q344 : 0 < (l0.length : Int) := of_decide_eq_true (by first | (with_reducible assumption) | assumption)
               obtain ⟨ad344, A344_2, c344_2, e344, hx344_0, hx344_1, hx344_2, hx344_3, hx344_4, hx344_5, hl344_2, hi344_2⟩ := at_T27 (Kd.V_reads' HO_0.out).2.2 0 p344 q344
               cases e344
               obtain ⟨ce344, hce344, hMe344, hcc344⟩ := Kd.V_get HO_0.out z27 0 p344 (by first | exact q344 | exact of_decide_eq_true (by first | (with_reducible assumption) | assumption) | (have e_ := (Kd.V_reads' HO_0.out).1; omega))
               obtain ⟨ua344_2, uc344_2, rfl, ul344_2, ge344_2⟩ := k27_openF hMe344
               have hv344_2 := hcc344 2 _ rfl
               rw [add_field _ _ 2 (by omega)] at hv344_2
               replace hv344_2 := Option.some.inj (hv344_2.symm.trans hx344_2)
               injection hv344_2 with hva_ hvn_ hvc_
               rw [hva_] at ge344_2
               rw [hvc_] at ul344_2
               have HL344_2 := Aside0.mk (show Kd.V (Kd.int .i64) 3 _ w.heap.size _ _ ((rd_T27 l0 0).f1.f1) from Kd.V_mk ul344_2 ge344_2)
               clear hva_ hvn_ hvc_ ge344_2 ul344_2
               clear hcc344 hce344
               have qi344 : (0 < l0.length) = True := eq_true (by omega)
               (try rw [show ((0 : Int)).toNat = 0 from rfl] at hx344_0)
               (try rw [show 0 * 6 = 0 from rfl] at hx344_0)
               (try rw [Addr.add_zero'] at hx344_0)
               (try rw [show ((0 : Int)).toNat = 0 from rfl] at hx344_1)
               (try rw [show 0 * 6 = 0 from rfl] at hx344_1)
               (try rw [Addr.add_zero'] at hx344_1)
               (try rw [show ((0 : Int)).toNat = 0 from rfl] at hx344_2)
               (try rw [show 0 * 6 = 0 from rfl] at hx344_2)
               (try rw [Addr.add_zero'] at hx344_2)
               (try rw [show ((0 : Int)).toNat = 0 from rfl] at hx344_3)
               (try rw [show 0 * 6 = 0 from rfl] at hx344_3)
               (try rw [Addr.add_zero'] at hx344_3)
               (try rw [show ((0 : Int)).toNat = 0 from rfl] at hx344_4)
               (try rw [show 0 * 6 = 0 from rfl] at hx344_4)
               (try rw [Addr.add_zero'] at hx344_4)
               (try rw [show ((0 : Int)).toNat = 0 from rfl] at hx344_5)
               (try rw [show 0 * 6 = 0 from rfl] at hx344_5)
               (try rw [Addr.add_zero'] at hx344_5)
               have HR344_2 := Aside0.mk hi344_2
               have HC344_2 := Aside0.mk hl344_2
               clear hi344_2 hl344_2
               replace p344 := eq_true p344
               replace q344 := eq_true q344
               go_upto_region 21 with (first | ((with_reducible refine gate_builtin (b := .append) (xs := #[.tmp 87, .tmp 91]) rfl ?_); at_builtin; refine Kd.N_append k27 (w0 := w) w.heap.size rfl (.tmp 87) (.tmp 91) 22 27 (.agg #[(.int .i64 0), (.int .i64 0), (.slice none 0 0), (.int .i64 0), (.int .i64 0), (.int .i64 0)]) 64 rfl Try.underlying22 info27 rfl (by decide) (by omega) u11 x11_2 (⟨(rd_T27 l0 0).f0, (⟨(rd_T27 l0 0).f1.f0, (rd_T27 l0 0).f1.f1, (rd_T27 l0 0).f1.f2, (rd_T27 l0 0).f1.f3⟩ : S25), (rd_T27 l0 0).f2⟩ : S27) [.int .i64 ((rd_T27 l0 0).f0), .int .i64 ((rd_T27 l0 0).f1.f0), .slice A344_2 ((rd_T27 l0 0).f1.f1).length c344_2, .int .i64 ((rd_T27 l0 0).f1.f2), .int .i64 ((rd_T27 l0 0).f1.f3), .int .i64 ((rd_T27 l0 0).f2)] (fun k_ => ((P0_ k_ ∨ P1_ k_) ∨ w.heap.size ≤ k_) ∧ k_ ≠ gb324 ∧ k_ ≠ gb334) (fun k_ => ((fun k_ => ((P0_ k_ ∨ P1_ k_) ∨ w.heap.size ≤ k_) ∧ k_ ≠ gb324 ∧ k_ ≠ gb334)) k_ ∧ some k_ ≠ (u11 : Value).ownBlock) rfl rfl ?aP (fun _ hk => hk) ?aF ?aO ?aB ?aS ?aL ?_; (case aP => exact (k27_mkF _ _ (⟨(rd_T27 l0 0).f0, (⟨(rd_T27 l0 0).f1.f0, (rd_T27 l0 0).f1.f1, (rd_T27 l0 0).f1.f2, (rd_T27 l0 0).f1.f3⟩ : S25), (rd_T27 l0 0).f2⟩ : S27) (Kd.V_reads' (Kd.V_mono (ok' := (fun k_ => ((fun k_ => ((P0_ k_ ∨ P1_ k_) ∨ w.heap.size ≤ k_) ∧ k_ ≠ gb324 ∧ k_ ≠ gb334)) k_ ∧ some k_ ≠ (u11 : Value).ownBlock)) (HL344_2.out) (fun k_ hk => ⟨⟨hk.1, ⟨hk.2.2.1, hk.2.2.2⟩⟩, hk.2.1⟩))).2.1 (Kd.V_F (Kd.V_mono (ok' := (fun k_ => ((fun k_ => ((P0_ k_ ∨ P1_ k_) ∨ w.heap.size ≤ k_) ∧ k_ ≠ gb324 ∧ k_ ≠ gb334)) k_ ∧ some k_ ≠ (u11 : Value).ownBlock)) (HL344_2.out) (fun k_ hk => ⟨⟨hk.1, ⟨hk.2.2.1, hk.2.2.2⟩⟩, hk.2.1⟩))))); (case aB => exact (by repeat (first | (with_reducible first | exact HB.out | apply below_alloc | apply pw_below_drewN | apply below_drew1 | refine below_set ?_ GE324.out | refine below_set ?_ GE334.out) | exact HB.out))); (case aF => exact (fun k_ hk => ⟨(.inr (Nat.le_trans (below_size (by repeat (first | (with_reducible first | exact HB.out | apply below_alloc | apply pw_below_drewN | apply below_drew1 | refine below_set ?_ GE324.out | refine below_set ?_ GE334.out) | exact HB.out))) hk)), Kd.freshB (g := gb324) (o := .cells #[.int .i64 t315, .int .i64 t316, .slice Ao15 t317.length co15, .int .i64 t320, .int .i64 t321, .int .i64 t322] 27 (0, 0)) (by (with_reducible repeat first|apply zN6|apply zD6|apply zA6); exact BK324.out) k_ hk, Kd.freshB (g := gb334) (o := .cells #[.int .i64 t325, .int .i64 t326, .slice Ao21 t327.length co21, .int .i64 t330, .int .i64 t331, .int .i64 t332] 27 (0, 0)) (by (with_reducible repeat first|apply zN6|apply zD6|apply zA6); exact BK334.out) k_ hk⟩)); (case aO => exact (by (with_reducible repeat (first | apply Kd.N_alloc | apply Kd.N_drewN | apply Kd.N_drew)); exact HO_11.out)); (case aS => exact (below_size (by repeat (first | (with_reducible first | exact HB.out | apply below_alloc | apply pw_below_drewN | apply below_drew1 | refine below_set ?_ GE324.out | refine below_set ?_ GE334.out) | exact HB.out)))); (case aL => have := LMc44.out; omega); intro v346 w50 ho hb hg hat; rw [← Ny345.out] at ho; have n0_ := Aside0.mk (Kd.V_afterv (ok := (fun k_ => ((P0_ k_ ∨ P1_ k_) ∨ w.heap.size ≤ k_) ∧ k_ ≠ gb324 ∧ k_ ≠ gb334)) (by (with_reducible repeat first|apply vA6|apply vN6|apply vD6); exact Kd.V_mono HO_0.out (fun _ hk => ⟨⟨hk.1, ⟨hk.2.2.1, hk.2.2.2⟩⟩, hk.2.1⟩)) hg hat); have n1_ := Aside0.mk (Kd.V_afterv (ok := (fun k_ => ((P0_ k_ ∨ P1_ k_) ∨ w.heap.size ≤ k_) ∧ k_ ≠ gb324 ∧ k_ ≠ gb334)) (by (with_reducible repeat first|apply vA6|apply vN6|apply vD6); exact Kd.V_mono HO_1.out (fun _ hk => ⟨⟨hk.1, ⟨hk.2.2.1, hk.2.2.2⟩⟩, hk.2.1⟩)) hg hat); have n2_ := Aside0.mk (Kd.V_afterv (ok := (fun k_ => ((P0_ k_ ∨ P1_ k_) ∨ w.heap.size ≤ k_) ∧ k_ ≠ gb324 ∧ k_ ≠ gb334)) (by (with_reducible repeat first|apply vA6|apply vN6|apply vD6); exact Kd.V_mono HO_325002.out (fun _ hk => ⟨⟨hk.1, ⟨hk.2.2.1, hk.2.2.2⟩⟩, hk.2.1⟩)) hg hat); have n3_ := Aside0.mk (Kd.V_afterv (ok := (fun k_ => ((P0_ k_ ∨ P1_ k_) ∨ w.heap.size ≤ k_) ∧ k_ ≠ gb324 ∧ k_ ≠ gb334)) (by (with_reducible repeat first|apply vA6|apply vN6|apply vD6); exact Kd.V_mono HO_335002.out (fun _ hk => ⟨⟨hk.1, ⟨hk.2.2.1, hk.2.2.2⟩⟩, hk.2.1⟩)) hg hat); have n4_ := Aside0.mk (blk_grown (g := gb324) (o := .cells #[.int .i64 t315, .int .i64 t316, .slice Ao15 t317.length co15, .int .i64 t320, .int .i64 t321, .int .i64 t322] 27 (0, 0)) (by (with_reducible repeat first|apply zN6|apply zD6|apply zA6); exact BK324.out) hg (Kd.N_away HO_11.out (fun _ hk => hk.2.1))); have n5_ := Aside0.mk (blk_grown (g := gb334) (o := .cells #[.int .i64 t325, .int .i64 t326, .slice Ao21 t327.length co21, .int .i64 t330, .int .i64 t331, .int .i64 t332] 27 (0, 0)) (by (with_reducible repeat first|apply zN6|apply zD6|apply zA6); exact BK334.out) hg (Kd.N_away HO_11.out (fun _ hk => hk.2.2))); have n6_ := Aside0.mk (Kd.V_afterv (ok := (fun k_ => ((P0_ k_ ∨ P1_ k_) ∨ w.heap.size ≤ k_) ∧ k_ ≠ gb324 ∧ k_ ≠ gb334)) (by (with_reducible repeat first|apply vA6|apply vN6|apply vD6); exact Kd.V_mono HL344_2.out (fun _ hk => ⟨⟨hk.1, ⟨hk.2.2.1, hk.2.2.2⟩⟩, hk.2.1⟩)) hg hat); have n7_ := Aside0.mk (hb); have n8_ := Aside0.mk (ho); clear HO_0; clear HO_1; clear HO_325002; clear HO_335002; clear BK324; clear BK334; clear HL344_2; clear HB; clear HO_11; have HO_0 := n0_; have HO_1 := n1_; have HO_325002 := n2_; have HO_335002 := n3_; have BK324 := n4_; have BK334 := n5_; have HL344_2 := n6_; have HB := n7_; have HO347 := n8_; clear n0_ n1_ n2_ n3_ n4_ n5_ n6_ n7_ n8_; clear ho hb hg hat; obtain ⟨Ao51, co51, eo51⟩ := Kd.N_slice HO347.out; subst eo51) | ((with_reducible refine gate_callee (f := 16) rfl ?_); refine goesL_ (some 95) rfl rfl Try.func16 (by kernel_rfl) rfl #[.slice Ao51 y345.length co51] rfl (by (try simp only [List.map_toArray, List.map_cons, List.map_nil]); first | done | rfl | (simp only [List.length_drop, List.length_take]; rfl)) ?_; (with_reducible refine (route_Best.calls kj38 (fun k_ => (((P0_ k_ ∨ P1_ k_) ∨ w.heap.size ≤ k_) ∧ (k_ ≠ gb324 ∧ k_ ≠ gb334))) _ _ y345 t348 t349 t350 t353 t354 t355 t356 _ ?side1 A45.out).mono ?_); (case side1 => exact Kd.N_V (HO347.out)); rintro e w52 ⟨v351, rfl, ho0, hb⟩; refine ⟨_, rfl, ?_⟩; have n0_ := Aside0.mk (Kd.V_below (by (with_reducible repeat first|apply vA6|apply vN6|apply vD6); exact HO_0.out) hb); have n1_ := Aside0.mk (Kd.V_below (by (with_reducible repeat first|apply vA6|apply vN6|apply vD6); exact HO_1.out) hb); have n2_ := Aside0.mk (Kd.V_below (by (with_reducible repeat first|apply vA6|apply vN6|apply vD6); exact HO_325002.out) hb); have n3_ := Aside0.mk (Kd.V_below (by (with_reducible repeat first|apply vA6|apply vN6|apply vD6); exact HO_335002.out) hb); have n4_ := Aside0.mk (Kd.V_below (by (with_reducible repeat first|apply vA6|apply vN6|apply vD6); exact HL344_2.out) hb); have n5_ := Aside0.mk (Kd.N_below (by (with_reducible repeat (first | apply Kd.N_alloc | apply Kd.N_drewN | apply Kd.N_drew)); exact HO347.out) hb); have n6_ := Aside0.mk (Kd.V_lower (Kd.V_mono (ok' := fun k_ => ((P0_ k_ ∨ P1_ k_) ∨ w.heap.size ≤ k_) ∧ k_ ≠ gb324 ∧ k_ ≠ gb334) ho0 (fun k_ hk_ => ⟨Or.elim hk_ (fun hs_ => hs_.1) (fun hn_ => (.inr (Nat.le_trans (below_size (by repeat (first | (with_reducible first | exact HB.out | apply below_alloc | apply pw_below_drewN | apply below_drew1 | refine below_set ?_ GE324.out | refine below_set ?_ GE334.out) | exact HB.out))) hn_))), Or.elim hk_ (fun hs_ => hs_.2.1) (fun hn_ => (Kd.freshB (g := gb324) (o := .cells #[.int .i64 t315, .int .i64 t316, .slice Ao15 t317.length co15, .int .i64 t320, .int .i64 t321, .int .i64 t322] 27 (0, 0)) (by (with_reducible repeat first|apply zN6|apply zD6|apply zA6); exact BK324.out) k_ hn_)), Or.elim hk_ (fun hs_ => hs_.2.2) (fun hn_ => (Kd.freshB (g := gb334) (o := .cells #[.int .i64 t325, .int .i64 t326, .slice Ao21 t327.length co21, .int .i64 t330, .int .i64 t331, .int .i64 t332] 27 (0, 0)) (by (with_reducible repeat first|apply zN6|apply zD6|apply zA6); exact BK334.out) k_ hn_))⟩)) (below_size (by repeat (first | (with_reducible first | exact HB.out | apply below_alloc | apply pw_below_drewN | apply below_drew1 | refine below_set ?_ GE324.out | refine below_set ?_ GE334.out) | exact HB.out)))); have n7_ := Aside0.mk (blk_below (g := gb324) (o := .cells #[.int .i64 t315, .int .i64 t316, .slice Ao15 t317.length co15, .int .i64 t320, .int .i64 t321, .int .i64 t322] 27 (0, 0)) (by (with_reducible repeat first|apply zN6|apply zD6|apply zA6); exact BK324.out) hb); have n8_ := Aside0.mk (blk_below (g := gb334) (o := .cells #[.int .i64 t325, .int .i64 t326, .slice Ao21 t327.length co21, .int .i64 t330, .int .i64 t331, .int .i64 t332] 27 (0, 0)) (by (with_reducible repeat first|apply zN6|apply zD6|apply zA6); exact BK334.out) hb); have n9_ := Aside0.mk (below_step (by repeat (first | (with_reducible first | exact HB.out | apply below_alloc | apply pw_below_drewN | apply below_drew1 | refine below_set ?_ GE324.out | refine below_set ?_ GE334.out) | exact HB.out)) hb); clear HO_0; clear HO_1; clear HO_325002; clear HO_335002; clear HL344_2; clear HO347; clear BK324; clear BK334; clear HB; have HO_0 := n0_; have HO_1 := n1_; have HO_325002 := n2_; have HO_335002 := n3_; have HL344_2 := n4_; have HO347 := n5_; have HO352 := n6_; have BK324 := n7_; have BK334 := n8_; have HB := n9_; clear n0_ n1_ n2_ n3_ n4_ n5_ n6_ n7_ n8_ n9_; (try clear hb); (try clear hb2); (try clear hk); (try clear hi); (try clear ho0)) | ((with_reducible refine gate_dst (N := 13) rfl ?_); refine box_event ?hg (N := 13) ?hd (cs := #[.int .i64 0, .int .i64 0, .slice none 0 0, .int .i64 0, .int .i64 0, .int .i64 0]) (t := 27) ?hr ?_; (case hd => rfl); (case hg => rfl); (case hr => first | (go_simp; done) | (go_simp; rfl)); intro gb357 hg w53 hbox hb; have n0_ := Aside0.mk (Kd.V_below (Kd.V_elderB (by (with_reducible repeat first|apply vA6|apply vN6|apply vD6); exact HO_0.out) gb357 (Nat.le_of_eq hg.symm)) hb); have n1_ := Aside0.mk (Kd.V_below (Kd.V_elderB (by (with_reducible repeat first|apply vA6|apply vN6|apply vD6); exact HO_1.out) gb357 (Nat.le_of_eq hg.symm)) hb); have n2_ := Aside0.mk (Kd.V_below (Kd.V_elderB (by (with_reducible repeat first|apply vA6|apply vN6|apply vD6); exact HO_325002.out) gb357 (Nat.le_of_eq hg.symm)) hb); have n3_ := Aside0.mk (Kd.V_below (Kd.V_elderB (by (with_reducible repeat first|apply vA6|apply vN6|apply vD6); exact HO_335002.out) gb357 (Nat.le_of_eq hg.symm)) hb); have n4_ := Aside0.mk (Kd.V_below (Kd.V_elderB (by (with_reducible repeat first|apply vA6|apply vN6|apply vD6); exact HL344_2.out) gb357 (Nat.le_of_eq hg.symm)) hb); have n5_ := Aside0.mk (Kd.N_below (Kd.N_elderB (by (with_reducible repeat (first | apply Kd.N_alloc | apply Kd.N_drewN | apply Kd.N_drew)); exact HO347.out) gb357 (Nat.le_of_eq hg.symm)) hb); have n6_ := Aside0.mk (Kd.V_below (Kd.V_elderB (by (with_reducible repeat first|apply vA6|apply vN6|apply vD6); exact HO352.out) gb357 (Nat.le_of_eq hg.symm)) hb); have n7_ := Aside0.mk (blk_below (g := gb324) (o := .cells #[.int .i64 t315, .int .i64 t316, .slice Ao15 t317.length co15, .int .i64 t320, .int .i64 t321, .int .i64 t322] 27 (0, 0)) (by (with_reducible repeat first|apply zN6|apply zD6|apply zA6); exact BK324.out) hb); have n8_ := Aside0.mk (blk_below (g := gb334) (o := .cells #[.int .i64 t325, .int .i64 t326, .slice Ao21 t327.length co21, .int .i64 t330, .int .i64 t331, .int .i64 t332] 27 (0, 0)) (by (with_reducible repeat first|apply zN6|apply zD6|apply zA6); exact BK334.out) hb); have n9_ := Aside0.mk (below_step (by repeat (first | (with_reducible first | exact HB.out | apply below_alloc | apply pw_below_drewN | apply below_drew1 | refine below_set ?_ GE324.out | refine below_set ?_ GE334.out) | exact HB.out)) hb); have n10_ := Aside0.mk (hbox); have n11_ := Aside0.mk ((by rw [hg]; exact (below_size (by repeat (first | (with_reducible first | exact HB.out | apply below_alloc | apply pw_below_drewN | apply below_drew1 | refine below_set ?_ GE324.out | refine below_set ?_ GE334.out) | exact HB.out))) : w.heap.size ≤ gb357)); have n12_ := Aside0.mk ((by rw [hg]; exact (below_size (by repeat (first | (with_reducible first | exact HB.out | apply below_alloc | apply pw_below_drewN | apply below_drew1 | refine below_set ?_ GE324.out | refine below_set ?_ GE334.out) | exact HB.out))) : w.heap.size ≤ gb357)); have n13_ := Aside0.mk ((by rw [hg]; exact Nat.ne_of_lt (blk_lt (g := gb324) (o := .cells #[.int .i64 t315, .int .i64 t316, .slice Ao15 t317.length co15, .int .i64 t320, .int .i64 t321, .int .i64 t322] 27 (0, 0)) (by (with_reducible repeat first|apply zN6|apply zD6|apply zA6); exact BK324.out)) : gb324 ≠ gb357)); have n14_ := Aside0.mk ((by rw [hg]; exact Nat.ne_of_gt (blk_lt (g := gb324) (o := .cells #[.int .i64 t315, .int .i64 t316, .slice Ao15 t317.length co15, .int .i64 t320, .int .i64 t321, .int .i64 t322] 27 (0, 0)) (by (with_reducible repeat first|apply zN6|apply zD6|apply zA6); exact BK324.out)) : gb357 ≠ gb324)); have n15_ := Aside0.mk ((by rw [hg]; exact Nat.ne_of_lt (blk_lt (g := gb334) (o := .cells #[.int .i64 t325, .int .i64 t326, .slice Ao21 t327.length co21, .int .i64 t330, .int .i64 t331, .int .i64 t332] 27 (0, 0)) (by (with_reducible repeat first|apply zN6|apply zD6|apply zA6); exact BK334.out)) : gb334 ≠ gb357)); have n16_ := Aside0.mk ((by rw [hg]; exact Nat.ne_of_gt (blk_lt (g := gb334) (o := .cells #[.int .i64 t325, .int .i64 t326, .slice Ao21 t327.length co21, .int .i64 t330, .int .i64 t331, .int .i64 t332] 27 (0, 0)) (by (with_reducible repeat first|apply zN6|apply zD6|apply zA6); exact BK334.out)) : gb357 ≠ gb334)); clear HO_0; clear HO_1; clear HO_325002; clear HO_335002; clear HL344_2; clear HO347; clear HO352; clear BK324; clear BK334; clear HB; have HO_0 := n0_; have HO_1 := n1_; have HO_325002 := n2_; have HO_335002 := n3_; have HL344_2 := n4_; have HO347 := n5_; have HO352 := n6_; have BK324 := n7_; have BK334 := n8_; have HB := n9_; have BK357 := n10_; have GW357 := n11_; have GE357 := n12_; have NB324_357 := n13_; have NB357_324 := n14_; have NB334_357 := n15_; have NB357_334 := n16_; clear n0_ n1_ n2_ n3_ n4_ n5_ n6_ n7_ n8_ n9_ n10_ n11_ n12_ n13_ n14_ n15_ n16_; clear hb hbox hg; have hnb54 := NB357_324.out; have hnc54 := NB324_357.out; have hnb55 := NB357_334.out; have hnc55 := NB334_357.out; have hcz56_0 : w53.cell? ⟨gb357, 0, none⟩ = some (.int .i64 0) := (blk_cell BK357.out 0).trans rfl; have hcz56_1 : w53.cell? ⟨gb357, 1, none⟩ = some (.int .i64 0) := (blk_cell BK357.out 1).trans rfl; have hcz56_2 : w53.cell? ⟨gb357, 2, none⟩ = some (.slice none 0 0) := (blk_cell BK357.out 2).trans rfl; have hcz56_3 : w53.cell? ⟨gb357, 3, none⟩ = some (.int .i64 0) := (blk_cell BK357.out 3).trans rfl; have hcz56_4 : w53.cell? ⟨gb357, 4, none⟩ = some (.int .i64 0) := (blk_cell BK357.out 4).trans rfl; have hcz56_5 : w53.cell? ⟨gb357, 5, none⟩ = some (.int .i64 0) := (blk_cell BK357.out 5).trans rfl; have hfz56_0 := blk_frozen BK357.out 0; have hfz56_1 := blk_frozen BK357.out 1; have hfz56_2 := blk_frozen BK357.out 2; have hfz56_3 := blk_frozen BK357.out 3; have hfz56_4 := blk_frozen BK357.out 4; have hfz56_5 := blk_frozen BK357.out 5; obtain ⟨Ao57, co57, eo57⟩ := Kd.V_slice HO352.out; subst eo57))
               obtain ⟨wS1, hwS1⟩ : ∃ wS1 : World, wS1 = ((((((w53.setCell ⟨gb357, 0, none⟩ (.int .i64 t348)).setCell ⟨gb357, 1, none⟩ (.int .i64 t349)).setCell ⟨gb357, 2, none⟩ (.slice Ao57 t350.length co57)).setCell ⟨gb357, 3, none⟩ (.int .i64 t353)).setCell ⟨gb357, 4, none⟩ (.int .i64 t354)).setCell ⟨gb357, 5, none⟩ (.int .i64 t355)) := ⟨_, rfl⟩
               have m_HO347 := Aside0.mk (Kd.N_mono (Kd.N_far (p := ⟨gb357, 5, none⟩) (Kd.N_far (p := ⟨gb357, 4, none⟩) (Kd.N_far (p := ⟨gb357, 3, none⟩) (Kd.N_far (p := ⟨gb357, 2, none⟩) (Kd.N_far (p := ⟨gb357, 1, none⟩) (Kd.N_far (p := ⟨gb357, 0, none⟩) (Kd.N_mono HO347.out (fun k_ hk => (⟨hk, hk.2⟩ : _ ∧ k_ ≠ gb357))) (fun _ hk => hk.2) (.int .i64 t348)) (fun _ hk => hk.2) (.int .i64 t349)) (fun _ hk => hk.2) (.slice Ao57 t350.length co57)) (fun _ hk => hk.2) (.int .i64 t353)) (fun _ hk => hk.2) (.int .i64 t354)) (fun _ hk => hk.2) (.int .i64 t355)) (fun _ h_ => h_.1))
               rw [← hwS1] at m_HO347
               have m_HO_0 := Aside0.mk (Kd.V_mono (Kd.V_far (p := ⟨gb357, 5, none⟩) (Kd.V_far (p := ⟨gb357, 4, none⟩) (Kd.V_far (p := ⟨gb357, 3, none⟩) (Kd.V_far (p := ⟨gb357, 2, none⟩) (Kd.V_far (p := ⟨gb357, 1, none⟩) (Kd.V_far (p := ⟨gb357, 0, none⟩) (Kd.V_mono HO_0.out (fun k_ hk => (⟨hk, hk.2⟩ : _ ∧ k_ ≠ gb357))) (fun _ hk => hk.2) (.int .i64 t348)) (fun _ hk => hk.2) (.int .i64 t349)) (fun _ hk => hk.2) (.slice Ao57 t350.length co57)) (fun _ hk => hk.2) (.int .i64 t353)) (fun _ hk => hk.2) (.int .i64 t354)) (fun _ hk => hk.2) (.int .i64 t355)) (fun _ h_ => h_.1))
               rw [← hwS1] at m_HO_0
               have m_HO_1 := Aside0.mk (Kd.V_mono (Kd.V_far (p := ⟨gb357, 5, none⟩) (Kd.V_far (p := ⟨gb357, 4, none⟩) (Kd.V_far (p := ⟨gb357, 3, none⟩) (Kd.V_far (p := ⟨gb357, 2, none⟩) (Kd.V_far (p := ⟨gb357, 1, none⟩) (Kd.V_far (p := ⟨gb357, 0, none⟩) (Kd.V_mono HO_1.out (fun k_ hk => (⟨hk, hk.2⟩ : _ ∧ k_ ≠ gb357))) (fun _ hk => hk.2) (.int .i64 t348)) (fun _ hk => hk.2) (.int .i64 t349)) (fun _ hk => hk.2) (.slice Ao57 t350.length co57)) (fun _ hk => hk.2) (.int .i64 t353)) (fun _ hk => hk.2) (.int .i64 t354)) (fun _ hk => hk.2) (.int .i64 t355)) (fun _ h_ => h_.1))
               rw [← hwS1] at m_HO_1
               have m_HO_325002 := Aside0.mk (Kd.V_mono (Kd.V_far (p := ⟨gb357, 5, none⟩) (Kd.V_far (p := ⟨gb357, 4, none⟩) (Kd.V_far (p := ⟨gb357, 3, none⟩) (Kd.V_far (p := ⟨gb357, 2, none⟩) (Kd.V_far (p := ⟨gb357, 1, none⟩) (Kd.V_far (p := ⟨gb357, 0, none⟩) (Kd.V_mono HO_325002.out (fun k_ hk => (⟨hk, hk.2⟩ : _ ∧ k_ ≠ gb357))) (fun _ hk => hk.2) (.int .i64 t348)) (fun _ hk => hk.2) (.int .i64 t349)) (fun _ hk => hk.2) (.slice Ao57 t350.length co57)) (fun _ hk => hk.2) (.int .i64 t353)) (fun _ hk => hk.2) (.int .i64 t354)) (fun _ hk => hk.2) (.int .i64 t355)) (fun _ h_ => h_.1))
               rw [← hwS1] at m_HO_325002
               have m_HO_335002 := Aside0.mk (Kd.V_mono (Kd.V_far (p := ⟨gb357, 5, none⟩) (Kd.V_far (p := ⟨gb357, 4, none⟩) (Kd.V_far (p := ⟨gb357, 3, none⟩) (Kd.V_far (p := ⟨gb357, 2, none⟩) (Kd.V_far (p := ⟨gb357, 1, none⟩) (Kd.V_far (p := ⟨gb357, 0, none⟩) (Kd.V_mono HO_335002.out (fun k_ hk => (⟨hk, hk.2⟩ : _ ∧ k_ ≠ gb357))) (fun _ hk => hk.2) (.int .i64 t348)) (fun _ hk => hk.2) (.int .i64 t349)) (fun _ hk => hk.2) (.slice Ao57 t350.length co57)) (fun _ hk => hk.2) (.int .i64 t353)) (fun _ hk => hk.2) (.int .i64 t354)) (fun _ hk => hk.2) (.int .i64 t355)) (fun _ h_ => h_.1))
               rw [← hwS1] at m_HO_335002
               have m_HL344_2 := Aside0.mk (Kd.V_mono (Kd.V_far (p := ⟨gb357, 5, none⟩) (Kd.V_far (p := ⟨gb357, 4, none⟩) (Kd.V_far (p := ⟨gb357, 3, none⟩) (Kd.V_far (p := ⟨gb357, 2, none⟩) (Kd.V_far (p := ⟨gb357, 1, none⟩) (Kd.V_far (p := ⟨gb357, 0, none⟩) (Kd.V_mono HL344_2.out (fun k_ hk => (⟨hk, hk.2⟩ : _ ∧ k_ ≠ gb357))) (fun _ hk => hk.2) (.int .i64 t348)) (fun _ hk => hk.2) (.int .i64 t349)) (fun _ hk => hk.2) (.slice Ao57 t350.length co57)) (fun _ hk => hk.2) (.int .i64 t353)) (fun _ hk => hk.2) (.int .i64 t354)) (fun _ hk => hk.2) (.int .i64 t355)) (fun _ h_ => h_.1))
               rw [← hwS1] at m_HL344_2
               have m_HO352 := Aside0.mk (Kd.V_mono (Kd.V_far (p := ⟨gb357, 5, none⟩) (Kd.V_far (p := ⟨gb357, 4, none⟩) (Kd.V_far (p := ⟨gb357, 3, none⟩) (Kd.V_far (p := ⟨gb357, 2, none⟩) (Kd.V_far (p := ⟨gb357, 1, none⟩) (Kd.V_far (p := ⟨gb357, 0, none⟩) (Kd.V_mono HO352.out (fun k_ hk => (⟨hk, hk.2⟩ : _ ∧ k_ ≠ gb357))) (fun _ hk => hk.2) (.int .i64 t348)) (fun _ hk => hk.2) (.int .i64 t349)) (fun _ hk => hk.2) (.slice Ao57 t350.length co57)) (fun _ hk => hk.2) (.int .i64 t353)) (fun _ hk => hk.2) (.int .i64 t354)) (fun _ hk => hk.2) (.int .i64 t355)) (fun _ h_ => h_.1))
               rw [← hwS1] at m_HO352
               have m_BK324 := Aside0.mk (blk_far (blk_far (blk_far (blk_far (blk_far (blk_far BK324.out (p := ⟨gb357, 0, none⟩) NB324_357.out (.int .i64 t348)) (p := ⟨gb357, 1, none⟩) NB324_357.out (.int .i64 t349)) (p := ⟨gb357, 2, none⟩) NB324_357.out (.slice Ao57 t350.length co57)) (p := ⟨gb357, 3, none⟩) NB324_357.out (.int .i64 t353)) (p := ⟨gb357, 4, none⟩) NB324_357.out (.int .i64 t354)) (p := ⟨gb357, 5, none⟩) NB324_357.out (.int .i64 t355))
               rw [← hwS1] at m_BK324
               have m_BK334 := Aside0.mk (blk_far (blk_far (blk_far (blk_far (blk_far (blk_far BK334.out (p := ⟨gb357, 0, none⟩) NB334_357.out (.int .i64 t348)) (p := ⟨gb357, 1, none⟩) NB334_357.out (.int .i64 t349)) (p := ⟨gb357, 2, none⟩) NB334_357.out (.slice Ao57 t350.length co57)) (p := ⟨gb357, 3, none⟩) NB334_357.out (.int .i64 t353)) (p := ⟨gb357, 4, none⟩) NB334_357.out (.int .i64 t354)) (p := ⟨gb357, 5, none⟩) NB334_357.out (.int .i64 t355))
               rw [← hwS1] at m_BK334
               have m_BK357 := Aside0.mk (blk_put (cs := #[.int .i64 t348, .int .i64 t349, .slice Ao57 t350.length co57, .int .i64 t353, .int .i64 t354, .int .i64 0]) (cs' := #[.int .i64 t348, .int .i64 t349, .slice Ao57 t350.length co57, .int .i64 t353, .int .i64 t354, .int .i64 t355]) (blk_put (cs := #[.int .i64 t348, .int .i64 t349, .slice Ao57 t350.length co57, .int .i64 t353, .int .i64 0, .int .i64 0]) (cs' := #[.int .i64 t348, .int .i64 t349, .slice Ao57 t350.length co57, .int .i64 t353, .int .i64 t354, .int .i64 0]) (blk_put (cs := #[.int .i64 t348, .int .i64 t349, .slice Ao57 t350.length co57, .int .i64 0, .int .i64 0, .int .i64 0]) (cs' := #[.int .i64 t348, .int .i64 t349, .slice Ao57 t350.length co57, .int .i64 t353, .int .i64 0, .int .i64 0]) (blk_put (cs := #[.int .i64 t348, .int .i64 t349, .slice none 0 0, .int .i64 0, .int .i64 0, .int .i64 0]) (cs' := #[.int .i64 t348, .int .i64 t349, .slice Ao57 t350.length co57, .int .i64 0, .int .i64 0, .int .i64 0]) (blk_put (cs := #[.int .i64 t348, .int .i64 0, .slice none 0 0, .int .i64 0, .int .i64 0, .int .i64 0]) (cs' := #[.int .i64 t348, .int .i64 t349, .slice none 0 0, .int .i64 0, .int .i64 0, .int .i64 0]) (blk_put (cs := #[.int .i64 0, .int .i64 0, .slice none 0 0, .int .i64 0, .int .i64 0, .int .i64 0]) (cs' := #[.int .i64 t348, .int .i64 0, .slice none 0 0, .int .i64 0, .int .i64 0, .int .i64 0]) BK357.out 0 (.int .i64 t348) rfl) 1 (.int .i64 t349) rfl) 2 (.slice Ao57 t350.length co57) rfl) 3 (.int .i64 t353) rfl) 4 (.int .i64 t354) rfl) 5 (.int .i64 t355) rfl)
               rw [← hwS1] at m_BK357
               have m_HB := Aside0.mk (below_set (j := 5) (v := .int .i64 t355) (below_set (j := 4) (v := .int .i64 t354) (below_set (j := 3) (v := .int .i64 t353) (below_set (j := 2) (v := .slice Ao57 t350.length co57) (below_set (j := 1) (v := .int .i64 t349) (below_set (j := 0) (v := .int .i64 t348) HB.out GE357.out) GE357.out) GE357.out) GE357.out) GE357.out) GE357.out)
               rw [← hwS1] at m_HB
               rw [← hwS1]
               clear hwS1
               clear HO347
               clear HO_0
               clear HO_1
               clear HO_325002
               clear HO_335002
               clear HL344_2
               clear HO352
               clear BK324
               clear BK334
               clear BK357
               clear HB
               have HO347 := m_HO347
               have HO_0 := m_HO_0
               have HO_1 := m_HO_1
               have HO_325002 := m_HO_325002
               have HO_335002 := m_HO_335002
               have HL344_2 := m_HL344_2
               have HO352 := m_HO352
               have BK324 := m_BK324
               have BK334 := m_BK334
               have BK357 := m_BK357
               have HB := m_HB
               clear m_HO347 m_HO_0 m_HO_1 m_HO_325002 m_HO_335002 m_HL344_2 m_HO352 m_BK324 m_BK334 m_BK357 m_HB
               go_upto_region 24 with (first | ((with_reducible refine gate_dst (N := 98) rfl ?_); refine Kd.N_lit k27 _ 27 ?hg (N' := 98) ?hd (xs := ([] : List (S27))) (inner := []) (ok := (fun k_ => ((P0_ k_ ∨ P1_ k_) ∨ w.heap.size ≤ k_) ∧ some k_ ≠ (.slice Ao51 y345.length co51 : Value).ownBlock ∧ k_ ≠ gb324 ∧ k_ ≠ gb334 ∧ k_ ≠ gb357)) (okp := (fun k_ => ((P0_ k_ ∨ P1_ k_) ∨ w.heap.size ≤ k_) ∧ some k_ ≠ (.slice Ao51 y345.length co51 : Value).ownBlock ∧ k_ ≠ gb324 ∧ k_ ≠ gb334 ∧ k_ ≠ gb357)) ?hr ?hp (fun _ hk => hk) ((show ∀ k_, wS1.heap.size ≤ k_ → (fun k_ => ((P0_ k_ ∨ P1_ k_) ∨ w.heap.size ≤ k_) ∧ some k_ ≠ (.slice Ao51 y345.length co51 : Value).ownBlock ∧ k_ ≠ gb324 ∧ k_ ≠ gb334 ∧ k_ ≠ gb357) k_ from fun k_ hk => ⟨(.inr (Nat.le_trans (below_size (by repeat (first | (with_reducible first | exact HB.out | apply below_alloc | apply pw_below_drewN | apply below_drew1 | refine below_set ?_ GE324.out | refine below_set ?_ GE334.out | refine below_set ?_ GE357.out) | exact HB.out))) hk)), Kd.fresh' (Kd.N_lt (by (with_reducible repeat (first | apply Kd.N_alloc | apply Kd.N_drewN | apply Kd.N_drew)); exact HO347.out)) k_ hk, Kd.freshB (g := gb324) (o := .cells #[.int .i64 t315, .int .i64 t316, .slice Ao15 t317.length co15, .int .i64 t320, .int .i64 t321, .int .i64 t322] 27 (0, 0)) (by (with_reducible repeat first|apply zN6|apply zD6|apply zA6); exact BK324.out) k_ hk, Kd.freshB (g := gb334) (o := .cells #[.int .i64 t325, .int .i64 t326, .slice Ao21 t327.length co21, .int .i64 t330, .int .i64 t331, .int .i64 t332] 27 (0, 0)) (by (with_reducible repeat first|apply zN6|apply zD6|apply zA6); exact BK334.out) k_ hk, Kd.freshB (g := gb357) (o := .cells #[.int .i64 t348, .int .i64 t349, .slice Ao57 t350.length co57, .int .i64 t353, .int .i64 t354, .int .i64 t355] 27 (0, 0)) (by (with_reducible repeat first|apply zN6|apply zD6|apply zA6); exact BK357.out) k_ hk⟩) _ (Nat.le_refl _)) (Below.refl _ _) (Nat.le_refl _) (by simp) ?_; (case hd => rfl); (case hg => rfl); (case hr => first | (go_simp; done) | (go_simp; rfl)); (case hp => exact (Reps.none _ _)); intro v359 w58 ho59 hb hg_ hnew_; clear hg_ hnew_; (first | rw [← Ny358.out] at ho59 | (simp only [Int.reduceToNat] at ho59; rw [← Ny358.out] at ho59)); have n0_ := Aside0.mk (Kd.V_elder' (by (with_reducible repeat first|apply vA6|apply vN6|apply vD6); exact HO_0.out) (Kd.N_base ho59) hb); have n1_ := Aside0.mk (Kd.V_elder' (by (with_reducible repeat first|apply vA6|apply vN6|apply vD6); exact HO_1.out) (Kd.N_base ho59) hb); have n2_ := Aside0.mk (Kd.V_elder' (by (with_reducible repeat first|apply vA6|apply vN6|apply vD6); exact HO_325002.out) (Kd.N_base ho59) hb); have n3_ := Aside0.mk (Kd.V_elder' (by (with_reducible repeat first|apply vA6|apply vN6|apply vD6); exact HO_335002.out) (Kd.N_base ho59) hb); have n4_ := Aside0.mk (Kd.V_elder' (by (with_reducible repeat first|apply vA6|apply vN6|apply vD6); exact HL344_2.out) (Kd.N_base ho59) hb); have n5_ := Aside0.mk (Kd.N_elder' (by (with_reducible repeat (first | apply Kd.N_alloc | apply Kd.N_drewN | apply Kd.N_drew)); exact HO347.out) (Kd.N_base ho59) hb); have n6_ := Aside0.mk (Kd.V_elder' (by (with_reducible repeat first|apply vA6|apply vN6|apply vD6); exact HO352.out) (Kd.N_base ho59) hb); have n7_ := Aside0.mk (Kd.N_lower ho59 (below_size (by repeat (first | (with_reducible first | exact HB.out | apply below_alloc | apply pw_below_drewN | apply below_drew1 | refine below_set ?_ GE324.out | refine below_set ?_ GE334.out | refine below_set ?_ GE357.out) | exact HB.out)))); have n8_ := Aside0.mk (blk_below (g := gb324) (o := .cells #[.int .i64 t315, .int .i64 t316, .slice Ao15 t317.length co15, .int .i64 t320, .int .i64 t321, .int .i64 t322] 27 (0, 0)) (by (with_reducible repeat first|apply zN6|apply zD6|apply zA6); exact BK324.out) hb); have n9_ := Aside0.mk (blk_below (g := gb334) (o := .cells #[.int .i64 t325, .int .i64 t326, .slice Ao21 t327.length co21, .int .i64 t330, .int .i64 t331, .int .i64 t332] 27 (0, 0)) (by (with_reducible repeat first|apply zN6|apply zD6|apply zA6); exact BK334.out) hb); have n10_ := Aside0.mk (blk_below (g := gb357) (o := .cells #[.int .i64 t348, .int .i64 t349, .slice Ao57 t350.length co57, .int .i64 t353, .int .i64 t354, .int .i64 t355] 27 (0, 0)) (by (with_reducible repeat first|apply zN6|apply zD6|apply zA6); exact BK357.out) hb); have n11_ := Aside0.mk (below_step (by repeat (first | (with_reducible first | exact HB.out | apply below_alloc | apply pw_below_drewN | apply below_drew1 | refine below_set ?_ GE324.out | refine below_set ?_ GE334.out | refine below_set ?_ GE357.out) | exact HB.out)) hb); clear HO_0; clear HO_1; clear HO_325002; clear HO_335002; clear HL344_2; clear HO347; clear HO352; clear BK324; clear BK334; clear BK357; clear HB; have HO_0 := n0_; have HO_1 := n1_; have HO_325002 := n2_; have HO_335002 := n3_; have HL344_2 := n4_; have HO347 := n5_; have HO352 := n6_; have HO360 := n7_; have BK324 := n8_; have BK334 := n9_; have BK357 := n10_; have HB := n11_; clear n0_ n1_ n2_ n3_ n4_ n5_ n6_ n7_ n8_ n9_ n10_ n11_; clear hb ho59) | ((with_reducible refine gate_builtin (b := .append) (xs := #[.tmp 98, .tmp 99]) rfl ?_); at_builtin; refine Kd.N_append_rows k27 (w0 := w) w.heap.size rfl (.tmp 98) (.tmp 99) 22 27 (.agg #[(.int .i64 0), (.int .i64 0), (.slice none 0 0), (.int .i64 0), (.int .i64 0), (.int .i64 0)]) 64 rfl Try.underlying22 info27 rfl (by decide) (by omega) v359 y358 l0 _ _ _ (fun k_ => ((P0_ k_ ∨ P1_ k_) ∨ w.heap.size ≤ k_) ∧ some k_ ≠ (.slice Ao51 y345.length co51 : Value).ownBlock ∧ k_ ≠ gb324 ∧ k_ ≠ gb334 ∧ k_ ≠ gb357) (fun k_ => ((fun k_ => ((P0_ k_ ∨ P1_ k_) ∨ w.heap.size ≤ k_) ∧ some k_ ≠ (.slice Ao51 y345.length co51 : Value).ownBlock ∧ k_ ≠ gb324 ∧ k_ ≠ gb334 ∧ k_ ≠ gb357)) k_ ∧ some k_ ≠ (v359 : Value).ownBlock) rfl rfl ?aO ?aR (fun _ hk => hk) ?aF ?aB ?aS ?aL ?_; (case aR => exact (by skip; exact Kd.V_F (Kd.V_mono (ok' := (fun k_ => ((fun k_ => ((P0_ k_ ∨ P1_ k_) ∨ w.heap.size ≤ k_) ∧ some k_ ≠ (.slice Ao51 y345.length co51 : Value).ownBlock ∧ k_ ≠ gb324 ∧ k_ ≠ gb334 ∧ k_ ≠ gb357)) k_ ∧ some k_ ≠ (v359 : Value).ownBlock)) (HO_0.out) (fun k_ hk => ⟨⟨hk.1.1.1.1, ⟨hk.1.1.2, ⟨hk.1.1.1.2.1, ⟨hk.1.1.1.2.2, hk.1.2⟩⟩⟩⟩, hk.2⟩)))); (case aB => exact (by repeat (first | (with_reducible first | exact HB.out | apply below_alloc | apply pw_below_drewN | apply below_drew1 | refine below_set ?_ GE324.out | refine below_set ?_ GE334.out | refine below_set ?_ GE357.out) | exact HB.out))); (case aF => exact (fun k_ hk => ⟨(.inr (Nat.le_trans (below_size (by repeat (first | (with_reducible first | exact HB.out | apply below_alloc | apply pw_below_drewN | apply below_drew1 | refine below_set ?_ GE324.out | refine below_set ?_ GE334.out | refine below_set ?_ GE357.out) | exact HB.out))) hk)), Kd.fresh' (Kd.N_lt (by (with_reducible repeat (first | apply Kd.N_alloc | apply Kd.N_drewN | apply Kd.N_drew)); exact HO347.out)) k_ hk, Kd.freshB (g := gb324) (o := .cells #[.int .i64 t315, .int .i64 t316, .slice Ao15 t317.length co15, .int .i64 t320, .int .i64 t321, .int .i64 t322] 27 (0, 0)) (by (with_reducible repeat first|apply zN6|apply zD6|apply zA6); exact BK324.out) k_ hk, Kd.freshB (g := gb334) (o := .cells #[.int .i64 t325, .int .i64 t326, .slice Ao21 t327.length co21, .int .i64 t330, .int .i64 t331, .int .i64 t332] 27 (0, 0)) (by (with_reducible repeat first|apply zN6|apply zD6|apply zA6); exact BK334.out) k_ hk, Kd.freshB (g := gb357) (o := .cells #[.int .i64 t348, .int .i64 t349, .slice Ao57 t350.length co57, .int .i64 t353, .int .i64 t354, .int .i64 t355] 27 (0, 0)) (by (with_reducible repeat first|apply zN6|apply zD6|apply zA6); exact BK357.out) k_ hk⟩)); (case aO => exact (by (with_reducible repeat (first | apply Kd.N_alloc | apply Kd.N_drewN | apply Kd.N_drew)); exact HO360.out)); (case aS => exact (below_size (by repeat (first | (with_reducible first | exact HB.out | apply below_alloc | apply pw_below_drewN | apply below_drew1 | refine below_set ?_ GE324.out | refine below_set ?_ GE334.out | refine below_set ?_ GE357.out) | exact HB.out)))); (case aL => have := LMc46.out; omega); intro v362 w60 ho hb hg hat; rw [← Ny361.out] at ho; have n0_ := Aside0.mk (Kd.V_afterv (ok := (fun k_ => ((P0_ k_ ∨ P1_ k_) ∨ w.heap.size ≤ k_) ∧ some k_ ≠ (.slice Ao51 y345.length co51 : Value).ownBlock ∧ k_ ≠ gb324 ∧ k_ ≠ gb334 ∧ k_ ≠ gb357)) (by (with_reducible repeat first|apply vA6|apply vN6|apply vD6); exact Kd.V_mono HO_0.out (fun _ hk => ⟨⟨hk.1.1.1.1, ⟨hk.1.1.2, ⟨hk.1.1.1.2.1, ⟨hk.1.1.1.2.2, hk.1.2⟩⟩⟩⟩, hk.2⟩)) hg hat); have n1_ := Aside0.mk (Kd.V_afterv (ok := (fun k_ => ((P0_ k_ ∨ P1_ k_) ∨ w.heap.size ≤ k_) ∧ some k_ ≠ (.slice Ao51 y345.length co51 : Value).ownBlock ∧ k_ ≠ gb324 ∧ k_ ≠ gb334 ∧ k_ ≠ gb357)) (by (with_reducible repeat first|apply vA6|apply vN6|apply vD6); exact Kd.V_mono HO_1.out (fun _ hk => ⟨⟨hk.1.1.1.1, ⟨hk.1.1.2, ⟨hk.1.1.1.2.1, ⟨hk.1.1.1.2.2, hk.1.2⟩⟩⟩⟩, hk.2⟩)) hg hat); have n2_ := Aside0.mk (Kd.V_afterv (ok := (fun k_ => ((P0_ k_ ∨ P1_ k_) ∨ w.heap.size ≤ k_) ∧ some k_ ≠ (.slice Ao51 y345.length co51 : Value).ownBlock ∧ k_ ≠ gb324 ∧ k_ ≠ gb334 ∧ k_ ≠ gb357)) (by (with_reducible repeat first|apply vA6|apply vN6|apply vD6); exact Kd.V_mono HO_325002.out (fun _ hk => ⟨⟨hk.1.1.1.1, ⟨hk.1.1.2, ⟨hk.1.1.1.2.1, ⟨hk.1.1.1.2.2, hk.1.2⟩⟩⟩⟩, hk.2⟩)) hg hat); have n3_ := Aside0.mk (Kd.V_afterv (ok := (fun k_ => ((P0_ k_ ∨ P1_ k_) ∨ w.heap.size ≤ k_) ∧ some k_ ≠ (.slice Ao51 y345.length co51 : Value).ownBlock ∧ k_ ≠ gb324 ∧ k_ ≠ gb334 ∧ k_ ≠ gb357)) (by (with_reducible repeat first|apply vA6|apply vN6|apply vD6); exact Kd.V_mono HO_335002.out (fun _ hk => ⟨⟨hk.1.1.1.1, ⟨hk.1.1.2, ⟨hk.1.1.1.2.1, ⟨hk.1.1.1.2.2, hk.1.2⟩⟩⟩⟩, hk.2⟩)) hg hat); have n4_ := Aside0.mk (blk_grown (g := gb324) (o := .cells #[.int .i64 t315, .int .i64 t316, .slice Ao15 t317.length co15, .int .i64 t320, .int .i64 t321, .int .i64 t322] 27 (0, 0)) (by (with_reducible repeat first|apply zN6|apply zD6|apply zA6); exact BK324.out) hg (Kd.N_away HO360.out (fun _ hk => hk.2.2.1))); have n5_ := Aside0.mk (blk_grown (g := gb334) (o := .cells #[.int .i64 t325, .int .i64 t326, .slice Ao21 t327.length co21, .int .i64 t330, .int .i64 t331, .int .i64 t332] 27 (0, 0)) (by (with_reducible repeat first|apply zN6|apply zD6|apply zA6); exact BK334.out) hg (Kd.N_away HO360.out (fun _ hk => hk.2.2.2.1))); have n6_ := Aside0.mk (Kd.V_afterv (ok := (fun k_ => ((P0_ k_ ∨ P1_ k_) ∨ w.heap.size ≤ k_) ∧ some k_ ≠ (.slice Ao51 y345.length co51 : Value).ownBlock ∧ k_ ≠ gb324 ∧ k_ ≠ gb334 ∧ k_ ≠ gb357)) (by (with_reducible repeat first|apply vA6|apply vN6|apply vD6); exact Kd.V_mono HL344_2.out (fun _ hk => ⟨⟨hk.1.1.1.1, ⟨hk.1.1.2, ⟨hk.1.1.1.2.1, ⟨hk.1.1.1.2.2, hk.1.2⟩⟩⟩⟩, hk.2⟩)) hg hat); have n7_ := Aside0.mk (Kd.N_afterv (ok := (fun k_ => ((P0_ k_ ∨ P1_ k_) ∨ w.heap.size ≤ k_) ∧ k_ ≠ gb324 ∧ k_ ≠ gb334 ∧ k_ ≠ gb357)) (by (with_reducible repeat (first | apply Kd.N_alloc | apply Kd.N_drewN | apply Kd.N_drew)); exact Kd.N_mono HO347.out (fun _ hk => ⟨⟨hk.1.1.1, ⟨hk.1.1.2.1, ⟨hk.1.1.2.2, hk.1.2⟩⟩⟩, hk.2⟩)) hg hat); have n8_ := Aside0.mk (Kd.V_afterv (ok := (fun k_ => ((P0_ k_ ∨ P1_ k_) ∨ w.heap.size ≤ k_) ∧ k_ ≠ gb324 ∧ k_ ≠ gb334 ∧ k_ ≠ gb357)) (by (with_reducible repeat first|apply vA6|apply vN6|apply vD6); exact Kd.V_mono HO352.out (fun _ hk => ⟨⟨hk.1.1.1, ⟨hk.1.1.2.1, ⟨hk.1.1.2.2, hk.1.2⟩⟩⟩, hk.2⟩)) hg hat); have n9_ := Aside0.mk (blk_grown (g := gb357) (o := .cells #[.int .i64 t348, .int .i64 t349, .slice Ao57 t350.length co57, .int .i64 t353, .int .i64 t354, .int .i64 t355] 27 (0, 0)) (by (with_reducible repeat first|apply zN6|apply zD6|apply zA6); exact BK357.out) hg (Kd.N_away HO360.out (fun _ hk => hk.2.2.2.2))); have n10_ := Aside0.mk (hb); have n11_ := Aside0.mk (ho); clear HO_0; clear HO_1; clear HO_325002; clear HO_335002; clear BK324; clear BK334; clear HL344_2; clear HO347; clear HO352; clear BK357; clear HB; clear HO360; have HO_0 := n0_; have HO_1 := n1_; have HO_325002 := n2_; have HO_335002 := n3_; have BK324 := n4_; have BK334 := n5_; have HL344_2 := n6_; have HO347 := n7_; have HO352 := n8_; have BK357 := n9_; have HB := n10_; have HO363 := n11_; clear n0_ n1_ n2_ n3_ n4_ n5_ n6_ n7_ n8_ n9_ n10_ n11_; clear ho hb hg hat) | ((with_reducible refine gate_builtin (b := .append) (xs := #[.tmp 101, .tmp 102]) rfl ?_); at_builtin; refine Kd.N_append_rows k27 (w0 := w) w.heap.size rfl (.tmp 101) (.tmp 102) 22 27 (.agg #[(.int .i64 0), (.int .i64 0), (.slice none 0 0), (.int .i64 0), (.int .i64 0), (.int .i64 0)]) 64 rfl Try.underlying22 info27 rfl (by decide) (by omega) v362 y361 l1 _ _ _ (fun k_ => ((P0_ k_ ∨ P1_ k_) ∨ w.heap.size ≤ k_) ∧ some k_ ≠ (.slice Ao51 y345.length co51 : Value).ownBlock ∧ k_ ≠ gb324 ∧ k_ ≠ gb334 ∧ k_ ≠ gb357) (fun k_ => ((fun k_ => ((P0_ k_ ∨ P1_ k_) ∨ w.heap.size ≤ k_) ∧ some k_ ≠ (.slice Ao51 y345.length co51 : Value).ownBlock ∧ k_ ≠ gb324 ∧ k_ ≠ gb334 ∧ k_ ≠ gb357)) k_ ∧ some k_ ≠ (v362 : Value).ownBlock) rfl rfl ?aO ?aR (fun _ hk => hk) ?aF ?aB ?aS ?aL ?_; (case aR => exact (by skip; exact Kd.V_F (Kd.V_mono (ok' := (fun k_ => ((fun k_ => ((P0_ k_ ∨ P1_ k_) ∨ w.heap.size ≤ k_) ∧ some k_ ≠ (.slice Ao51 y345.length co51 : Value).ownBlock ∧ k_ ≠ gb324 ∧ k_ ≠ gb334 ∧ k_ ≠ gb357)) k_ ∧ some k_ ≠ (v362 : Value).ownBlock)) (HO_1.out) (fun k_ hk => ⟨⟨hk.1.1, ⟨hk.1.2.1, ⟨hk.1.2.2.1, ⟨hk.1.2.2.2.1, hk.1.2.2.2.2⟩⟩⟩⟩, hk.2⟩)))); (case aB => exact (by repeat (first | (with_reducible first | exact HB.out | apply below_alloc | apply pw_below_drewN | apply below_drew1 | refine below_set ?_ GE324.out | refine below_set ?_ GE334.out | refine below_set ?_ GE357.out) | exact HB.out))); (case aF => exact (fun k_ hk => ⟨(.inr (Nat.le_trans (below_size (by repeat (first | (with_reducible first | exact HB.out | apply below_alloc | apply pw_below_drewN | apply below_drew1 | refine below_set ?_ GE324.out | refine below_set ?_ GE334.out | refine below_set ?_ GE357.out) | exact HB.out))) hk)), Kd.fresh' (Kd.N_lt (by (with_reducible repeat (first | apply Kd.N_alloc | apply Kd.N_drewN | apply Kd.N_drew)); exact HO347.out)) k_ hk, Kd.freshB (g := gb324) (o := .cells #[.int .i64 t315, .int .i64 t316, .slice Ao15 t317.length co15, .int .i64 t320, .int .i64 t321, .int .i64 t322] 27 (0, 0)) (by (with_reducible repeat first|apply zN6|apply zD6|apply zA6); exact BK324.out) k_ hk, Kd.freshB (g := gb334) (o := .cells #[.int .i64 t325, .int .i64 t326, .slice Ao21 t327.length co21, .int .i64 t330, .int .i64 t331, .int .i64 t332] 27 (0, 0)) (by (with_reducible repeat first|apply zN6|apply zD6|apply zA6); exact BK334.out) k_ hk, Kd.freshB (g := gb357) (o := .cells #[.int .i64 t348, .int .i64 t349, .slice Ao57 t350.length co57, .int .i64 t353, .int .i64 t354, .int .i64 t355] 27 (0, 0)) (by (with_reducible repeat first|apply zN6|apply zD6|apply zA6); exact BK357.out) k_ hk⟩)); (case aO => exact (by (with_reducible repeat (first | apply Kd.N_alloc | apply Kd.N_drewN | apply Kd.N_drew)); exact HO363.out)); (case aS => exact (below_size (by repeat (first | (with_reducible first | exact HB.out | apply below_alloc | apply pw_below_drewN | apply below_drew1 | refine below_set ?_ GE324.out | refine below_set ?_ GE334.out | refine below_set ?_ GE357.out) | exact HB.out)))); (case aL => have := LMc47.out; omega); intro v365 w61 ho hb hg hat; rw [← Ny364.out] at ho; have n0_ := Aside0.mk (Kd.V_afterv (ok := (fun k_ => ((P0_ k_ ∨ P1_ k_) ∨ w.heap.size ≤ k_) ∧ some k_ ≠ (.slice Ao51 y345.length co51 : Value).ownBlock ∧ k_ ≠ gb324 ∧ k_ ≠ gb334 ∧ k_ ≠ gb357)) (by (with_reducible repeat first|apply vA6|apply vN6|apply vD6); exact HO_0.out) hg hat); have n1_ := Aside0.mk (Kd.V_afterv (ok := (fun k_ => ((P0_ k_ ∨ P1_ k_) ∨ w.heap.size ≤ k_) ∧ some k_ ≠ (.slice Ao51 y345.length co51 : Value).ownBlock ∧ k_ ≠ gb324 ∧ k_ ≠ gb334 ∧ k_ ≠ gb357)) (by (with_reducible repeat first|apply vA6|apply vN6|apply vD6); exact HO_1.out) hg hat); have n2_ := Aside0.mk (Kd.V_afterv (ok := (fun k_ => ((P0_ k_ ∨ P1_ k_) ∨ w.heap.size ≤ k_) ∧ some k_ ≠ (.slice Ao51 y345.length co51 : Value).ownBlock ∧ k_ ≠ gb324 ∧ k_ ≠ gb334 ∧ k_ ≠ gb357)) (by (with_reducible repeat first|apply vA6|apply vN6|apply vD6); exact HO_325002.out) hg hat); have n3_ := Aside0.mk (Kd.V_afterv (ok := (fun k_ => ((P0_ k_ ∨ P1_ k_) ∨ w.heap.size ≤ k_) ∧ some k_ ≠ (.slice Ao51 y345.length co51 : Value).ownBlock ∧ k_ ≠ gb324 ∧ k_ ≠ gb334 ∧ k_ ≠ gb357)) (by (with_reducible repeat first|apply vA6|apply vN6|apply vD6); exact HO_335002.out) hg hat); have n4_ := Aside0.mk (blk_grown (g := gb324) (o := .cells #[.int .i64 t315, .int .i64 t316, .slice Ao15 t317.length co15, .int .i64 t320, .int .i64 t321, .int .i64 t322] 27 (0, 0)) (by (with_reducible repeat first|apply zN6|apply zD6|apply zA6); exact BK324.out) hg (Kd.N_away HO363.out (fun _ hk => hk.2.2.1))); have n5_ := Aside0.mk (blk_grown (g := gb334) (o := .cells #[.int .i64 t325, .int .i64 t326, .slice Ao21 t327.length co21, .int .i64 t330, .int .i64 t331, .int .i64 t332] 27 (0, 0)) (by (with_reducible repeat first|apply zN6|apply zD6|apply zA6); exact BK334.out) hg (Kd.N_away HO363.out (fun _ hk => hk.2.2.2.1))); have n6_ := Aside0.mk (Kd.V_afterv (ok := (fun k_ => ((P0_ k_ ∨ P1_ k_) ∨ w.heap.size ≤ k_) ∧ some k_ ≠ (.slice Ao51 y345.length co51 : Value).ownBlock ∧ k_ ≠ gb324 ∧ k_ ≠ gb334 ∧ k_ ≠ gb357)) (by (with_reducible repeat first|apply vA6|apply vN6|apply vD6); exact HL344_2.out) hg hat); have n7_ := Aside0.mk (Kd.N_afterv (ok := (fun k_ => ((P0_ k_ ∨ P1_ k_) ∨ w.heap.size ≤ k_) ∧ k_ ≠ gb324 ∧ k_ ≠ gb334 ∧ k_ ≠ gb357)) (by (with_reducible repeat (first | apply Kd.N_alloc | apply Kd.N_drewN | apply Kd.N_drew)); exact HO347.out) hg hat); have n8_ := Aside0.mk (Kd.V_afterv (ok := (fun k_ => ((P0_ k_ ∨ P1_ k_) ∨ w.heap.size ≤ k_) ∧ k_ ≠ gb324 ∧ k_ ≠ gb334 ∧ k_ ≠ gb357)) (by (with_reducible repeat first|apply vA6|apply vN6|apply vD6); exact HO352.out) hg hat); have n9_ := Aside0.mk (blk_grown (g := gb357) (o := .cells #[.int .i64 t348, .int .i64 t349, .slice Ao57 t350.length co57, .int .i64 t353, .int .i64 t354, .int .i64 t355] 27 (0, 0)) (by (with_reducible repeat first|apply zN6|apply zD6|apply zA6); exact BK357.out) hg (Kd.N_away HO363.out (fun _ hk => hk.2.2.2.2))); have n10_ := Aside0.mk (hb); have n11_ := Aside0.mk (ho); clear HO_0; clear HO_1; clear HO_325002; clear HO_335002; clear BK324; clear BK334; clear HL344_2; clear HO347; clear HO352; clear BK357; clear HB; clear HO363; have HO_0 := n0_; have HO_1 := n1_; have HO_325002 := n2_; have HO_335002 := n3_; have BK324 := n4_; have BK334 := n5_; have HL344_2 := n6_; have HO347 := n7_; have HO352 := n8_; have BK357 := n9_; have HB := n10_; have HO366 := n11_; clear n0_ n1_ n2_ n3_ n4_ n5_ n6_ n7_ n8_ n9_ n10_ n11_; clear ho hb hg hat; obtain ⟨Ao62, co62, eo62⟩ := Kd.N_slice HO366.out; subst eo62) | ((with_reducible refine gate_callee (f := 16) rfl ?_); refine goesL_ (some 106) rfl rfl Try.func16 (by kernel_rfl) rfl #[.slice Ao62 y364.length co62] rfl (by (try simp only [List.map_toArray, List.map_cons, List.map_nil]); first | done | rfl | (simp only [List.length_drop, List.length_take]; rfl)) ?_; (with_reducible refine (route_Best.calls kj38 (fun k_ => (((P0_ k_ ∨ P1_ k_) ∨ w.heap.size ≤ k_) ∧ (some k_ ≠ (.slice Ao51 y345.length co51 : Value).ownBlock ∧ (k_ ≠ gb324 ∧ (k_ ≠ gb334 ∧ k_ ≠ gb357))))) _ _ y364 t367 t368 t369 t372 t373 t374 t375 _ ?side1 A48.out).mono ?_); (case side1 => exact Kd.N_V (HO366.out)); rintro e w63 ⟨v370, rfl, ho0, hb⟩; refine ⟨_, rfl, ?_⟩; have n0_ := Aside0.mk (Kd.V_below (by (with_reducible repeat first|apply vA6|apply vN6|apply vD6); exact HO_0.out) hb); have n1_ := Aside0.mk (Kd.V_below (by (with_reducible repeat first|apply vA6|apply vN6|apply vD6); exact HO_1.out) hb); have n2_ := Aside0.mk (Kd.V_below (by (with_reducible repeat first|apply vA6|apply vN6|apply vD6); exact HO_325002.out) hb); have n3_ := Aside0.mk (Kd.V_below (by (with_reducible repeat first|apply vA6|apply vN6|apply vD6); exact HO_335002.out) hb); have n4_ := Aside0.mk (Kd.V_below (by (with_reducible repeat first|apply vA6|apply vN6|apply vD6); exact HL344_2.out) hb); have n5_ := Aside0.mk (Kd.N_below (by (with_reducible repeat (first | apply Kd.N_alloc | apply Kd.N_drewN | apply Kd.N_drew)); exact HO347.out) hb); have n6_ := Aside0.mk (Kd.V_below (by (with_reducible repeat first|apply vA6|apply vN6|apply vD6); exact HO352.out) hb); have n7_ := Aside0.mk (Kd.N_below (by (with_reducible repeat (first | apply Kd.N_alloc | apply Kd.N_drewN | apply Kd.N_drew)); exact HO366.out) hb); have n8_ := Aside0.mk (Kd.V_lower (Kd.V_mono (ok' := fun k_ => ((P0_ k_ ∨ P1_ k_) ∨ w.heap.size ≤ k_) ∧ some k_ ≠ (.slice Ao51 y345.length co51 : Value).ownBlock ∧ k_ ≠ gb324 ∧ k_ ≠ gb334 ∧ k_ ≠ gb357) ho0 (fun k_ hk_ => ⟨Or.elim hk_ (fun hs_ => hs_.1) (fun hn_ => (.inr (Nat.le_trans (below_size (by repeat (first | (with_reducible first | exact HB.out | apply below_alloc | apply pw_below_drewN | apply below_drew1 | refine below_set ?_ GE324.out | refine below_set ?_ GE334.out | refine below_set ?_ GE357.out) | exact HB.out))) hn_))), Or.elim hk_ (fun hs_ => hs_.2.1) (fun hn_ => (Kd.fresh' (Kd.N_lt (by (with_reducible repeat (first | apply Kd.N_alloc | apply Kd.N_drewN | apply Kd.N_drew)); exact HO347.out)) k_ hn_)), Or.elim hk_ (fun hs_ => hs_.2.2.1) (fun hn_ => (Kd.freshB (g := gb324) (o := .cells #[.int .i64 t315, .int .i64 t316, .slice Ao15 t317.length co15, .int .i64 t320, .int .i64 t321, .int .i64 t322] 27 (0, 0)) (by (with_reducible repeat first|apply zN6|apply zD6|apply zA6); exact BK324.out) k_ hn_)), Or.elim hk_ (fun hs_ => hs_.2.2.2.1) (fun hn_ => (Kd.freshB (g := gb334) (o := .cells #[.int .i64 t325, .int .i64 t326, .slice Ao21 t327.length co21, .int .i64 t330, .int .i64 t331, .int .i64 t332] 27 (0, 0)) (by (with_reducible repeat first|apply zN6|apply zD6|apply zA6); exact BK334.out) k_ hn_)), Or.elim hk_ (fun hs_ => hs_.2.2.2.2) (fun hn_ => (Kd.freshB (g := gb357) (o := .cells #[.int .i64 t348, .int .i64 t349, .slice Ao57 t350.length co57, .int .i64 t353, .int .i64 t354, .int .i64 t355] 27 (0, 0)) (by (with_reducible repeat first|apply zN6|apply zD6|apply zA6); exact BK357.out) k_ hn_))⟩)) (below_size (by repeat (first | (with_reducible first | exact HB.out | apply below_alloc | apply pw_below_drewN | apply below_drew1 | refine below_set ?_ GE324.out | refine below_set ?_ GE334.out | refine below_set ?_ GE357.out) | exact HB.out)))); have n9_ := Aside0.mk (blk_below (g := gb324) (o := .cells #[.int .i64 t315, .int .i64 t316, .slice Ao15 t317.length co15, .int .i64 t320, .int .i64 t321, .int .i64 t322] 27 (0, 0)) (by (with_reducible repeat first|apply zN6|apply zD6|apply zA6); exact BK324.out) hb); have n10_ := Aside0.mk (blk_below (g := gb334) (o := .cells #[.int .i64 t325, .int .i64 t326, .slice Ao21 t327.length co21, .int .i64 t330, .int .i64 t331, .int .i64 t332] 27 (0, 0)) (by (with_reducible repeat first|apply zN6|apply zD6|apply zA6); exact BK334.out) hb); have n11_ := Aside0.mk (blk_below (g := gb357) (o := .cells #[.int .i64 t348, .int .i64 t349, .slice Ao57 t350.length co57, .int .i64 t353, .int .i64 t354, .int .i64 t355] 27 (0, 0)) (by (with_reducible repeat first|apply zN6|apply zD6|apply zA6); exact BK357.out) hb); have n12_ := Aside0.mk (below_step (by repeat (first | (with_reducible first | exact HB.out | apply below_alloc | apply pw_below_drewN | apply below_drew1 | refine below_set ?_ GE324.out | refine below_set ?_ GE334.out | refine below_set ?_ GE357.out) | exact HB.out)) hb); clear HO_0; clear HO_1; clear HO_325002; clear HO_335002; clear HL344_2; clear HO347; clear HO352; clear HO366; clear BK324; clear BK334; clear BK357; clear HB; have HO_0 := n0_; have HO_1 := n1_; have HO_325002 := n2_; have HO_335002 := n3_; have HL344_2 := n4_; have HO347 := n5_; have HO352 := n6_; have HO366 := n7_; have HO371 := n8_; have BK324 := n9_; have BK334 := n10_; have BK357 := n11_; have HB := n12_; clear n0_ n1_ n2_ n3_ n4_ n5_ n6_ n7_ n8_ n9_ n10_ n11_ n12_; (try clear hb); (try clear hb2); (try clear hk); (try clear hi); (try clear ho0)) | ((with_reducible refine gate_dst (N := 16) rfl ?_); refine box_event ?hg (N := 16) ?hd (cs := #[.int .i64 0, .int .i64 0, .slice none 0 0, .int .i64 0, .int .i64 0, .int .i64 0]) (t := 27) ?hr ?_; (case hd => rfl); (case hg => rfl); (case hr => first | (go_simp; done) | (go_simp; rfl)); intro gb376 hg w64 hbox hb; have n0_ := Aside0.mk (Kd.V_below (Kd.V_elderB (by (with_reducible repeat first|apply vA6|apply vN6|apply vD6); exact HO_0.out) gb376 (Nat.le_of_eq hg.symm)) hb); have n1_ := Aside0.mk (Kd.V_below (Kd.V_elderB (by (with_reducible repeat first|apply vA6|apply vN6|apply vD6); exact HO_1.out) gb376 (Nat.le_of_eq hg.symm)) hb); have n2_ := Aside0.mk (Kd.V_below (Kd.V_elderB (by (with_reducible repeat first|apply vA6|apply vN6|apply vD6); exact HO_325002.out) gb376 (Nat.le_of_eq hg.symm)) hb); have n3_ := Aside0.mk (Kd.V_below (Kd.V_elderB (by (with_reducible repeat first|apply vA6|apply vN6|apply vD6); exact HO_335002.out) gb376 (Nat.le_of_eq hg.symm)) hb); have n4_ := Aside0.mk (Kd.V_below (Kd.V_elderB (by (with_reducible repeat first|apply vA6|apply vN6|apply vD6); exact HL344_2.out) gb376 (Nat.le_of_eq hg.symm)) hb); have n5_ := Aside0.mk (Kd.N_below (Kd.N_elderB (by (with_reducible repeat (first | apply Kd.N_alloc | apply Kd.N_drewN | apply Kd.N_drew)); exact HO347.out) gb376 (Nat.le_of_eq hg.symm)) hb); have n6_ := Aside0.mk (Kd.V_below (Kd.V_elderB (by (with_reducible repeat first|apply vA6|apply vN6|apply vD6); exact HO352.out) gb376 (Nat.le_of_eq hg.symm)) hb); have n7_ := Aside0.mk (Kd.N_below (Kd.N_elderB (by (with_reducible repeat (first | apply Kd.N_alloc | apply Kd.N_drewN | apply Kd.N_drew)); exact HO366.out) gb376 (Nat.le_of_eq hg.symm)) hb); have n8_ := Aside0.mk (Kd.V_below (Kd.V_elderB (by (with_reducible repeat first|apply vA6|apply vN6|apply vD6); exact HO371.out) gb376 (Nat.le_of_eq hg.symm)) hb); have n9_ := Aside0.mk (blk_below (g := gb324) (o := .cells #[.int .i64 t315, .int .i64 t316, .slice Ao15 t317.length co15, .int .i64 t320, .int .i64 t321, .int .i64 t322] 27 (0, 0)) (by (with_reducible repeat first|apply zN6|apply zD6|apply zA6); exact BK324.out) hb); have n10_ := Aside0.mk (blk_below (g := gb334) (o := .cells #[.int .i64 t325, .int .i64 t326, .slice Ao21 t327.length co21, .int .i64 t330, .int .i64 t331, .int .i64 t332] 27 (0, 0)) (by (with_reducible repeat first|apply zN6|apply zD6|apply zA6); exact BK334.out) hb); have n11_ := Aside0.mk (blk_below (g := gb357) (o := .cells #[.int .i64 t348, .int .i64 t349, .slice Ao57 t350.length co57, .int .i64 t353, .int .i64 t354, .int .i64 t355] 27 (0, 0)) (by (with_reducible repeat first|apply zN6|apply zD6|apply zA6); exact BK357.out) hb); have n12_ := Aside0.mk (below_step (by repeat (first | (with_reducible first | exact HB.out | apply below_alloc | apply pw_below_drewN | apply below_drew1 | refine below_set ?_ GE324.out | refine below_set ?_ GE334.out | refine below_set ?_ GE357.out) | exact HB.out)) hb); have n13_ := Aside0.mk (hbox); have n14_ := Aside0.mk ((by rw [hg]; exact (below_size (by repeat (first | (with_reducible first | exact HB.out | apply below_alloc | apply pw_below_drewN | apply below_drew1 | refine below_set ?_ GE324.out | refine below_set ?_ GE334.out | refine below_set ?_ GE357.out) | exact HB.out))) : w.heap.size ≤ gb376)); have n15_ := Aside0.mk ((by rw [hg]; exact (below_size (by repeat (first | (with_reducible first | exact HB.out | apply below_alloc | apply pw_below_drewN | apply below_drew1 | refine below_set ?_ GE324.out | refine below_set ?_ GE334.out | refine below_set ?_ GE357.out) | exact HB.out))) : w.heap.size ≤ gb376)); have n16_ := Aside0.mk ((by rw [hg]; exact Nat.ne_of_lt (blk_lt (g := gb324) (o := .cells #[.int .i64 t315, .int .i64 t316, .slice Ao15 t317.length co15, .int .i64 t320, .int .i64 t321, .int .i64 t322] 27 (0, 0)) (by (with_reducible repeat first|apply zN6|apply zD6|apply zA6); exact BK324.out)) : gb324 ≠ gb376)); have n17_ := Aside0.mk ((by rw [hg]; exact Nat.ne_of_gt (blk_lt (g := gb324) (o := .cells #[.int .i64 t315, .int .i64 t316, .slice Ao15 t317.length co15, .int .i64 t320, .int .i64 t321, .int .i64 t322] 27 (0, 0)) (by (with_reducible repeat first|apply zN6|apply zD6|apply zA6); exact BK324.out)) : gb376 ≠ gb324)); have n18_ := Aside0.mk ((by rw [hg]; exact Nat.ne_of_lt (blk_lt (g := gb334) (o := .cells #[.int .i64 t325, .int .i64 t326, .slice Ao21 t327.length co21, .int .i64 t330, .int .i64 t331, .int .i64 t332] 27 (0, 0)) (by (with_reducible repeat first|apply zN6|apply zD6|apply zA6); exact BK334.out)) : gb334 ≠ gb376)); have n19_ := Aside0.mk ((by rw [hg]; exact Nat.ne_of_gt (blk_lt (g := gb334) (o := .cells #[.int .i64 t325, .int .i64 t326, .slice Ao21 t327.length co21, .int .i64 t330, .int .i64 t331, .int .i64 t332] 27 (0, 0)) (by (with_reducible repeat first|apply zN6|apply zD6|apply zA6); exact BK334.out)) : gb376 ≠ gb334)); have n20_ := Aside0.mk ((by rw [hg]; exact Nat.ne_of_lt (blk_lt (g := gb357) (o := .cells #[.int .i64 t348, .int .i64 t349, .slice Ao57 t350.length co57, .int .i64 t353, .int .i64 t354, .int .i64 t355] 27 (0, 0)) (by (with_reducible repeat first|apply zN6|apply zD6|apply zA6); exact BK357.out)) : gb357 ≠ gb376)); have n21_ := Aside0.mk ((by rw [hg]; exact Nat.ne_of_gt (blk_lt (g := gb357) (o := .cells #[.int .i64 t348, .int .i64 t349, .slice Ao57 t350.length co57, .int .i64 t353, .int .i64 t354, .int .i64 t355] 27 (0, 0)) (by (with_reducible repeat first|apply zN6|apply zD6|apply zA6); exact BK357.out)) : gb376 ≠ gb357)); clear HO_0; clear HO_1; clear HO_325002; clear HO_335002; clear HL344_2; clear HO347; clear HO352; clear HO366; clear HO371; clear BK324; clear BK334; clear BK357; clear HB; have HO_0 := n0_; have HO_1 := n1_; have HO_325002 := n2_; have HO_335002 := n3_; have HL344_2 := n4_; have HO347 := n5_; have HO352 := n6_; have HO366 := n7_; have HO371 := n8_; have BK324 := n9_; have BK334 := n10_; have BK357 := n11_; have HB := n12_; have BK376 := n13_; have GW376 := n14_; have GE376 := n15_; have NB324_376 := n16_; have NB376_324 := n17_; have NB334_376 := n18_; have NB376_334 := n19_; have NB357_376 := n20_; have NB376_357 := n21_; clear n0_ n1_ n2_ n3_ n4_ n5_ n6_ n7_ n8_ n9_ n10_ n11_ n12_ n13_ n14_ n15_ n16_ n17_ n18_ n19_ n20_ n21_; clear hb hbox hg; have hnb65 := NB376_324.out; have hnc65 := NB324_376.out; have hnb66 := NB376_334.out; have hnc66 := NB334_376.out; have hnb67 := NB376_357.out; have hnc67 := NB357_376.out; have hcz68_0 : w64.cell? ⟨gb376, 0, none⟩ = some (.int .i64 0) := (blk_cell BK376.out 0).trans rfl; have hcz68_1 : w64.cell? ⟨gb376, 1, none⟩ = some (.int .i64 0) := (blk_cell BK376.out 1).trans rfl; have hcz68_2 : w64.cell? ⟨gb376, 2, none⟩ = some (.slice none 0 0) := (blk_cell BK376.out 2).trans rfl; have hcz68_3 : w64.cell? ⟨gb376, 3, none⟩ = some (.int .i64 0) := (blk_cell BK376.out 3).trans rfl; have hcz68_4 : w64.cell? ⟨gb376, 4, none⟩ = some (.int .i64 0) := (blk_cell BK376.out 4).trans rfl; have hcz68_5 : w64.cell? ⟨gb376, 5, none⟩ = some (.int .i64 0) := (blk_cell BK376.out 5).trans rfl; have hfz68_0 := blk_frozen BK376.out 0; have hfz68_1 := blk_frozen BK376.out 1; have hfz68_2 := blk_frozen BK376.out 2; have hfz68_3 := blk_frozen BK376.out 3; have hfz68_4 := blk_frozen BK376.out 4; have hfz68_5 := blk_frozen BK376.out 5; obtain ⟨Ao69, co69, eo69⟩ := Kd.V_slice HO371.out; subst eo69; have hnb70 := NB324_334.out; have hnc70 := NB334_324.out; have hcz71_0 : w64.cell? ⟨gb324, 0, none⟩ = some (.int .i64 t315) := (blk_cell BK324.out 0).trans rfl; have hcz71_1 : w64.cell? ⟨gb324, 1, none⟩ = some (.int .i64 t316) := (blk_cell BK324.out 1).trans rfl; have hcz71_2 : w64.cell? ⟨gb324, 2, none⟩ = some (.slice Ao15 t317.length co15) := (blk_cell BK324.out 2).trans rfl; have hcz71_3 : w64.cell? ⟨gb324, 3, none⟩ = some (.int .i64 t320) := (blk_cell BK324.out 3).trans rfl; have hcz71_4 : w64.cell? ⟨gb324, 4, none⟩ = some (.int .i64 t321) := (blk_cell BK324.out 4).trans rfl; have hcz71_5 : w64.cell? ⟨gb324, 5, none⟩ = some (.int .i64 t322) := (blk_cell BK324.out 5).trans rfl; have hfz71_0 := blk_frozen BK324.out 0; have hfz71_1 := blk_frozen BK324.out 1; have hfz71_2 := blk_frozen BK324.out 2; have hfz71_3 := blk_frozen BK324.out 3; have hfz71_4 := blk_frozen BK324.out 4; have hfz71_5 := blk_frozen BK324.out 5))
               obtain ⟨wS2, hwS2⟩ : ∃ wS2 : World, wS2 = ((((((w64.setCell ⟨gb376, 0, none⟩ (.int .i64 t367)).setCell ⟨gb376, 1, none⟩ (.int .i64 t368)).setCell ⟨gb376, 2, none⟩ (.slice Ao69 t369.length co69)).setCell ⟨gb376, 3, none⟩ (.int .i64 t372)).setCell ⟨gb376, 4, none⟩ (.int .i64 t373)).setCell ⟨gb376, 5, none⟩ (.int .i64 t374)) := ⟨_, rfl⟩
               have m_HO_0 := Aside0.mk (Kd.V_mono (Kd.V_far (p := ⟨gb376, 5, none⟩) (Kd.V_far (p := ⟨gb376, 4, none⟩) (Kd.V_far (p := ⟨gb376, 3, none⟩) (Kd.V_far (p := ⟨gb376, 2, none⟩) (Kd.V_far (p := ⟨gb376, 1, none⟩) (Kd.V_far (p := ⟨gb376, 0, none⟩) (Kd.V_mono HO_0.out (fun k_ hk => (⟨hk, hk.2⟩ : _ ∧ k_ ≠ gb376))) (fun _ hk => hk.2) (.int .i64 t367)) (fun _ hk => hk.2) (.int .i64 t368)) (fun _ hk => hk.2) (.slice Ao69 t369.length co69)) (fun _ hk => hk.2) (.int .i64 t372)) (fun _ hk => hk.2) (.int .i64 t373)) (fun _ hk => hk.2) (.int .i64 t374)) (fun _ h_ => h_.1))
               rw [← hwS2] at m_HO_0
               have m_HO_1 := Aside0.mk (Kd.V_mono (Kd.V_far (p := ⟨gb376, 5, none⟩) (Kd.V_far (p := ⟨gb376, 4, none⟩) (Kd.V_far (p := ⟨gb376, 3, none⟩) (Kd.V_far (p := ⟨gb376, 2, none⟩) (Kd.V_far (p := ⟨gb376, 1, none⟩) (Kd.V_far (p := ⟨gb376, 0, none⟩) (Kd.V_mono HO_1.out (fun k_ hk => (⟨hk, hk.2⟩ : _ ∧ k_ ≠ gb376))) (fun _ hk => hk.2) (.int .i64 t367)) (fun _ hk => hk.2) (.int .i64 t368)) (fun _ hk => hk.2) (.slice Ao69 t369.length co69)) (fun _ hk => hk.2) (.int .i64 t372)) (fun _ hk => hk.2) (.int .i64 t373)) (fun _ hk => hk.2) (.int .i64 t374)) (fun _ h_ => h_.1))
               rw [← hwS2] at m_HO_1
               have m_HO_325002 := Aside0.mk (Kd.V_mono (Kd.V_far (p := ⟨gb376, 5, none⟩) (Kd.V_far (p := ⟨gb376, 4, none⟩) (Kd.V_far (p := ⟨gb376, 3, none⟩) (Kd.V_far (p := ⟨gb376, 2, none⟩) (Kd.V_far (p := ⟨gb376, 1, none⟩) (Kd.V_far (p := ⟨gb376, 0, none⟩) (Kd.V_mono HO_325002.out (fun k_ hk => (⟨hk, hk.2⟩ : _ ∧ k_ ≠ gb376))) (fun _ hk => hk.2) (.int .i64 t367)) (fun _ hk => hk.2) (.int .i64 t368)) (fun _ hk => hk.2) (.slice Ao69 t369.length co69)) (fun _ hk => hk.2) (.int .i64 t372)) (fun _ hk => hk.2) (.int .i64 t373)) (fun _ hk => hk.2) (.int .i64 t374)) (fun _ h_ => h_.1))
               rw [← hwS2] at m_HO_325002
               have m_HO_335002 := Aside0.mk (Kd.V_mono (Kd.V_far (p := ⟨gb376, 5, none⟩) (Kd.V_far (p := ⟨gb376, 4, none⟩) (Kd.V_far (p := ⟨gb376, 3, none⟩) (Kd.V_far (p := ⟨gb376, 2, none⟩) (Kd.V_far (p := ⟨gb376, 1, none⟩) (Kd.V_far (p := ⟨gb376, 0, none⟩) (Kd.V_mono HO_335002.out (fun k_ hk => (⟨hk, hk.2⟩ : _ ∧ k_ ≠ gb376))) (fun _ hk => hk.2) (.int .i64 t367)) (fun _ hk => hk.2) (.int .i64 t368)) (fun _ hk => hk.2) (.slice Ao69 t369.length co69)) (fun _ hk => hk.2) (.int .i64 t372)) (fun _ hk => hk.2) (.int .i64 t373)) (fun _ hk => hk.2) (.int .i64 t374)) (fun _ h_ => h_.1))
               rw [← hwS2] at m_HO_335002
               have m_HL344_2 := Aside0.mk (Kd.V_mono (Kd.V_far (p := ⟨gb376, 5, none⟩) (Kd.V_far (p := ⟨gb376, 4, none⟩) (Kd.V_far (p := ⟨gb376, 3, none⟩) (Kd.V_far (p := ⟨gb376, 2, none⟩) (Kd.V_far (p := ⟨gb376, 1, none⟩) (Kd.V_far (p := ⟨gb376, 0, none⟩) (Kd.V_mono HL344_2.out (fun k_ hk => (⟨hk, hk.2⟩ : _ ∧ k_ ≠ gb376))) (fun _ hk => hk.2) (.int .i64 t367)) (fun _ hk => hk.2) (.int .i64 t368)) (fun _ hk => hk.2) (.slice Ao69 t369.length co69)) (fun _ hk => hk.2) (.int .i64 t372)) (fun _ hk => hk.2) (.int .i64 t373)) (fun _ hk => hk.2) (.int .i64 t374)) (fun _ h_ => h_.1))
               rw [← hwS2] at m_HL344_2
               have m_HO347 := Aside0.mk (Kd.N_mono (Kd.N_far (p := ⟨gb376, 5, none⟩) (Kd.N_far (p := ⟨gb376, 4, none⟩) (Kd.N_far (p := ⟨gb376, 3, none⟩) (Kd.N_far (p := ⟨gb376, 2, none⟩) (Kd.N_far (p := ⟨gb376, 1, none⟩) (Kd.N_far (p := ⟨gb376, 0, none⟩) (Kd.N_mono HO347.out (fun k_ hk => (⟨hk, hk.2⟩ : _ ∧ k_ ≠ gb376))) (fun _ hk => hk.2) (.int .i64 t367)) (fun _ hk => hk.2) (.int .i64 t368)) (fun _ hk => hk.2) (.slice Ao69 t369.length co69)) (fun _ hk => hk.2) (.int .i64 t372)) (fun _ hk => hk.2) (.int .i64 t373)) (fun _ hk => hk.2) (.int .i64 t374)) (fun _ h_ => h_.1))
               rw [← hwS2] at m_HO347
               have m_HO352 := Aside0.mk (Kd.V_mono (Kd.V_far (p := ⟨gb376, 5, none⟩) (Kd.V_far (p := ⟨gb376, 4, none⟩) (Kd.V_far (p := ⟨gb376, 3, none⟩) (Kd.V_far (p := ⟨gb376, 2, none⟩) (Kd.V_far (p := ⟨gb376, 1, none⟩) (Kd.V_far (p := ⟨gb376, 0, none⟩) (Kd.V_mono HO352.out (fun k_ hk => (⟨hk, hk.2⟩ : _ ∧ k_ ≠ gb376))) (fun _ hk => hk.2) (.int .i64 t367)) (fun _ hk => hk.2) (.int .i64 t368)) (fun _ hk => hk.2) (.slice Ao69 t369.length co69)) (fun _ hk => hk.2) (.int .i64 t372)) (fun _ hk => hk.2) (.int .i64 t373)) (fun _ hk => hk.2) (.int .i64 t374)) (fun _ h_ => h_.1))
               rw [← hwS2] at m_HO352
               have m_HO366 := Aside0.mk (Kd.N_mono (Kd.N_far (p := ⟨gb376, 5, none⟩) (Kd.N_far (p := ⟨gb376, 4, none⟩) (Kd.N_far (p := ⟨gb376, 3, none⟩) (Kd.N_far (p := ⟨gb376, 2, none⟩) (Kd.N_far (p := ⟨gb376, 1, none⟩) (Kd.N_far (p := ⟨gb376, 0, none⟩) (Kd.N_mono HO366.out (fun k_ hk => (⟨hk, hk.2⟩ : _ ∧ k_ ≠ gb376))) (fun _ hk => hk.2) (.int .i64 t367)) (fun _ hk => hk.2) (.int .i64 t368)) (fun _ hk => hk.2) (.slice Ao69 t369.length co69)) (fun _ hk => hk.2) (.int .i64 t372)) (fun _ hk => hk.2) (.int .i64 t373)) (fun _ hk => hk.2) (.int .i64 t374)) (fun _ h_ => h_.1))
               rw [← hwS2] at m_HO366
               have m_HO371 := Aside0.mk (Kd.V_mono (Kd.V_far (p := ⟨gb376, 5, none⟩) (Kd.V_far (p := ⟨gb376, 4, none⟩) (Kd.V_far (p := ⟨gb376, 3, none⟩) (Kd.V_far (p := ⟨gb376, 2, none⟩) (Kd.V_far (p := ⟨gb376, 1, none⟩) (Kd.V_far (p := ⟨gb376, 0, none⟩) (Kd.V_mono HO371.out (fun k_ hk => (⟨hk, hk.2⟩ : _ ∧ k_ ≠ gb376))) (fun _ hk => hk.2) (.int .i64 t367)) (fun _ hk => hk.2) (.int .i64 t368)) (fun _ hk => hk.2) (.slice Ao69 t369.length co69)) (fun _ hk => hk.2) (.int .i64 t372)) (fun _ hk => hk.2) (.int .i64 t373)) (fun _ hk => hk.2) (.int .i64 t374)) (fun _ h_ => h_.1))
               rw [← hwS2] at m_HO371
               have m_BK324 := Aside0.mk (blk_far (blk_far (blk_far (blk_far (blk_far (blk_far BK324.out (p := ⟨gb376, 0, none⟩) NB324_376.out (.int .i64 t367)) (p := ⟨gb376, 1, none⟩) NB324_376.out (.int .i64 t368)) (p := ⟨gb376, 2, none⟩) NB324_376.out (.slice Ao69 t369.length co69)) (p := ⟨gb376, 3, none⟩) NB324_376.out (.int .i64 t372)) (p := ⟨gb376, 4, none⟩) NB324_376.out (.int .i64 t373)) (p := ⟨gb376, 5, none⟩) NB324_376.out (.int .i64 t374))
               rw [← hwS2] at m_BK324
               have m_BK334 := Aside0.mk (blk_far (blk_far (blk_far (blk_far (blk_far (blk_far BK334.out (p := ⟨gb376, 0, none⟩) NB334_376.out (.int .i64 t367)) (p := ⟨gb376, 1, none⟩) NB334_376.out (.int .i64 t368)) (p := ⟨gb376, 2, none⟩) NB334_376.out (.slice Ao69 t369.length co69)) (p := ⟨gb376, 3, none⟩) NB334_376.out (.int .i64 t372)) (p := ⟨gb376, 4, none⟩) NB334_376.out (.int .i64 t373)) (p := ⟨gb376, 5, none⟩) NB334_376.out (.int .i64 t374))
               rw [← hwS2] at m_BK334
               have m_BK357 := Aside0.mk (blk_far (blk_far (blk_far (blk_far (blk_far (blk_far BK357.out (p := ⟨gb376, 0, none⟩) NB357_376.out (.int .i64 t367)) (p := ⟨gb376, 1, none⟩) NB357_376.out (.int .i64 t368)) (p := ⟨gb376, 2, none⟩) NB357_376.out (.slice Ao69 t369.length co69)) (p := ⟨gb376, 3, none⟩) NB357_376.out (.int .i64 t372)) (p := ⟨gb376, 4, none⟩) NB357_376.out (.int .i64 t373)) (p := ⟨gb376, 5, none⟩) NB357_376.out (.int .i64 t374))
               rw [← hwS2] at m_BK357
               have m_BK376 := Aside0.mk (blk_put (cs := #[.int .i64 t367, .int .i64 t368, .slice Ao69 t369.length co69, .int .i64 t372, .int .i64 t373, .int .i64 0]) (cs' := #[.int .i64 t367, .int .i64 t368, .slice Ao69 t369.length co69, .int .i64 t372, .int .i64 t373, .int .i64 t374]) (blk_put (cs := #[.int .i64 t367, .int .i64 t368, .slice Ao69 t369.length co69, .int .i64 t372, .int .i64 0, .int .i64 0]) (cs' := #[.int .i64 t367, .int .i64 t368, .slice Ao69 t369.length co69, .int .i64 t372, .int .i64 t373, .int .i64 0]) (blk_put (cs := #[.int .i64 t367, .int .i64 t368, .slice Ao69 t369.length co69, .int .i64 0, .int .i64 0, .int .i64 0]) (cs' := #[.int .i64 t367, .int .i64 t368, .slice Ao69 t369.length co69, .int .i64 t372, .int .i64 0, .int .i64 0]) (blk_put (cs := #[.int .i64 t367, .int .i64 t368, .slice none 0 0, .int .i64 0, .int .i64 0, .int .i64 0]) (cs' := #[.int .i64 t367, .int .i64 t368, .slice Ao69 t369.length co69, .int .i64 0, .int .i64 0, .int .i64 0]) (blk_put (cs := #[.int .i64 t367, .int .i64 0, .slice none 0 0, .int .i64 0, .int .i64 0, .int .i64 0]) (cs' := #[.int .i64 t367, .int .i64 t368, .slice none 0 0, .int .i64 0, .int .i64 0, .int .i64 0]) (blk_put (cs := #[.int .i64 0, .int .i64 0, .slice none 0 0, .int .i64 0, .int .i64 0, .int .i64 0]) (cs' := #[.int .i64 t367, .int .i64 0, .slice none 0 0, .int .i64 0, .int .i64 0, .int .i64 0]) BK376.out 0 (.int .i64 t367) rfl) 1 (.int .i64 t368) rfl) 2 (.slice Ao69 t369.length co69) rfl) 3 (.int .i64 t372) rfl) 4 (.int .i64 t373) rfl) 5 (.int .i64 t374) rfl)
               rw [← hwS2] at m_BK376
               have m_HB := Aside0.mk (below_set (j := 5) (v := .int .i64 t374) (below_set (j := 4) (v := .int .i64 t373) (below_set (j := 3) (v := .int .i64 t372) (below_set (j := 2) (v := .slice Ao69 t369.length co69) (below_set (j := 1) (v := .int .i64 t368) (below_set (j := 0) (v := .int .i64 t367) HB.out GE376.out) GE376.out) GE376.out) GE376.out) GE376.out) GE376.out)
               rw [← hwS2] at m_HB
               rw [← hwS2]
               clear hwS2
               clear HO_0
               clear HO_1
               clear HO_325002
               clear HO_335002
               clear HL344_2
               clear HO347
               clear HO352
               clear HO366
               clear HO371
               clear BK324
               clear BK334
               clear BK357
               clear BK376
               clear HB
               have HO_0 := m_HO_0
               have HO_1 := m_HO_1
               have HO_325002 := m_HO_325002
               have HO_335002 := m_HO_335002
               have HL344_2 := m_HL344_2
               have HO347 := m_HO347
               have HO352 := m_HO352
               have HO366 := m_HO366
               have HO371 := m_HO371
               have BK324 := m_BK324
               have BK334 := m_BK334
               have BK357 := m_BK357
               have BK376 := m_BK376
               have HB := m_HB
               clear m_HO_0 m_HO_1 m_HO_325002 m_HO_335002 m_HL344_2 m_HO347 m_HO352 m_HO366 m_HO371 m_BK324 m_BK334 m_BK357 m_BK376 m_HB
               have hczwS2_324_0 : wS2.cell? ⟨gb324, 0, none⟩ = some (.int .i64 t315) := (blk_cell BK324.out 0).trans rfl
               have hfzwS2_324_0 := blk_frozen BK324.out 0
               have hczwS2_324_1 : wS2.cell? ⟨gb324, 1, none⟩ = some (.int .i64 t316) := (blk_cell BK324.out 1).trans rfl
               have hfzwS2_324_1 := blk_frozen BK324.out 1
               have hczwS2_324_2 : wS2.cell? ⟨gb324, 2, none⟩ = some (.slice Ao15 t317.length co15) := (blk_cell BK324.out 2).trans rfl
               have hfzwS2_324_2 := blk_frozen BK324.out 2
               have hczwS2_324_3 : wS2.cell? ⟨gb324, 3, none⟩ = some (.int .i64 t320) := (blk_cell BK324.out 3).trans rfl
               have hfzwS2_324_3 := blk_frozen BK324.out 3
               have hczwS2_324_4 : wS2.cell? ⟨gb324, 4, none⟩ = some (.int .i64 t321) := (blk_cell BK324.out 4).trans rfl
               have hfzwS2_324_4 := blk_frozen BK324.out 4
               have hczwS2_324_5 : wS2.cell? ⟨gb324, 5, none⟩ = some (.int .i64 t322) := (blk_cell BK324.out 5).trans rfl
               have hfzwS2_324_5 := blk_frozen BK324.out 5
               have hczwS2_334_0 : wS2.cell? ⟨gb334, 0, none⟩ = some (.int .i64 t325) := (blk_cell BK334.out 0).trans rfl
               have hfzwS2_334_0 := blk_frozen BK334.out 0
               have hczwS2_334_1 : wS2.cell? ⟨gb334, 1, none⟩ = some (.int .i64 t326) := (blk_cell BK334.out 1).trans rfl
               have hfzwS2_334_1 := blk_frozen BK334.out 1
               have hczwS2_334_2 : wS2.cell? ⟨gb334, 2, none⟩ = some (.slice Ao21 t327.length co21) := (blk_cell BK334.out 2).trans rfl
               have hfzwS2_334_2 := blk_frozen BK334.out 2
               have hczwS2_334_3 : wS2.cell? ⟨gb334, 3, none⟩ = some (.int .i64 t330) := (blk_cell BK334.out 3).trans rfl
               have hfzwS2_334_3 := blk_frozen BK334.out 3
               have hczwS2_334_4 : wS2.cell? ⟨gb334, 4, none⟩ = some (.int .i64 t331) := (blk_cell BK334.out 4).trans rfl
               have hfzwS2_334_4 := blk_frozen BK334.out 4
               have hczwS2_334_5 : wS2.cell? ⟨gb334, 5, none⟩ = some (.int .i64 t332) := (blk_cell BK334.out 5).trans rfl
               have hfzwS2_334_5 := blk_frozen BK334.out 5
               have hczwS2_357_0 : wS2.cell? ⟨gb357, 0, none⟩ = some (.int .i64 t348) := (blk_cell BK357.out 0).trans rfl
               have hfzwS2_357_0 := blk_frozen BK357.out 0
               have hczwS2_357_1 : wS2.cell? ⟨gb357, 1, none⟩ = some (.int .i64 t349) := (blk_cell BK357.out 1).trans rfl
               have hfzwS2_357_1 := blk_frozen BK357.out 1
               have hczwS2_357_2 : wS2.cell? ⟨gb357, 2, none⟩ = some (.slice Ao57 t350.length co57) := (blk_cell BK357.out 2).trans rfl
               have hfzwS2_357_2 := blk_frozen BK357.out 2
               have hczwS2_357_3 : wS2.cell? ⟨gb357, 3, none⟩ = some (.int .i64 t353) := (blk_cell BK357.out 3).trans rfl
               have hfzwS2_357_3 := blk_frozen BK357.out 3
               have hczwS2_357_4 : wS2.cell? ⟨gb357, 4, none⟩ = some (.int .i64 t354) := (blk_cell BK357.out 4).trans rfl
               have hfzwS2_357_4 := blk_frozen BK357.out 4
               have hczwS2_357_5 : wS2.cell? ⟨gb357, 5, none⟩ = some (.int .i64 t355) := (blk_cell BK357.out 5).trans rfl
               have hfzwS2_357_5 := blk_frozen BK357.out 5
               have hczwS2_376_0 : wS2.cell? ⟨gb376, 0, none⟩ = some (.int .i64 t367) := (blk_cell BK376.out 0).trans rfl
               have hfzwS2_376_0 := blk_frozen BK376.out 0
               have hczwS2_376_1 : wS2.cell? ⟨gb376, 1, none⟩ = some (.int .i64 t368) := (blk_cell BK376.out 1).trans rfl
               have hfzwS2_376_1 := blk_frozen BK376.out 1
               have hczwS2_376_2 : wS2.cell? ⟨gb376, 2, none⟩ = some (.slice Ao69 t369.length co69) := (blk_cell BK376.out 2).trans rfl
               have hfzwS2_376_2 := blk_frozen BK376.out 2
               have hczwS2_376_3 : wS2.cell? ⟨gb376, 3, none⟩ = some (.int .i64 t372) := (blk_cell BK376.out 3).trans rfl
               have hfzwS2_376_3 := blk_frozen BK376.out 3
               have hczwS2_376_4 : wS2.cell? ⟨gb376, 4, none⟩ = some (.int .i64 t373) := (blk_cell BK376.out 4).trans rfl
               have hfzwS2_376_4 := blk_frozen BK376.out 4
               have hczwS2_376_5 : wS2.cell? ⟨gb376, 5, none⟩ = some (.int .i64 t374) := (blk_cell BK376.out 5).trans rfl
               have hfzwS2_376_5 := blk_frozen BK376.out 5
               go_upto_region 25 with (first | ((with_reducible refine gate_dst (N := 18) rfl ?_); refine box_event ?hg (N := 18) ?hd (cs := #[.int .i64 0, .int .i64 0, .slice none 0 0, .int .i64 0, .int .i64 0, .int .i64 0]) (t := 27) ?hr ?_; (case hd => rfl); (case hg => rfl); (case hr => first | (go_simp; done) | (go_simp; rfl)); intro gb377 hg w72 hbox hb; have n0_ := Aside0.mk (Kd.V_below (Kd.V_elderB (by (with_reducible repeat first|apply vA6|apply vN6|apply vD6); exact HO_0.out) gb377 (Nat.le_of_eq hg.symm)) hb); have n1_ := Aside0.mk (Kd.V_below (Kd.V_elderB (by (with_reducible repeat first|apply vA6|apply vN6|apply vD6); exact HO_1.out) gb377 (Nat.le_of_eq hg.symm)) hb); have n2_ := Aside0.mk (Kd.V_below (Kd.V_elderB (by (with_reducible repeat first|apply vA6|apply vN6|apply vD6); exact HO_325002.out) gb377 (Nat.le_of_eq hg.symm)) hb); have n3_ := Aside0.mk (Kd.V_below (Kd.V_elderB (by (with_reducible repeat first|apply vA6|apply vN6|apply vD6); exact HO_335002.out) gb377 (Nat.le_of_eq hg.symm)) hb); have n4_ := Aside0.mk (Kd.V_below (Kd.V_elderB (by (with_reducible repeat first|apply vA6|apply vN6|apply vD6); exact HL344_2.out) gb377 (Nat.le_of_eq hg.symm)) hb); have n5_ := Aside0.mk (Kd.N_below (Kd.N_elderB (by (with_reducible repeat (first | apply Kd.N_alloc | apply Kd.N_drewN | apply Kd.N_drew)); exact HO347.out) gb377 (Nat.le_of_eq hg.symm)) hb); have n6_ := Aside0.mk (Kd.V_below (Kd.V_elderB (by (with_reducible repeat first|apply vA6|apply vN6|apply vD6); exact HO352.out) gb377 (Nat.le_of_eq hg.symm)) hb); have n7_ := Aside0.mk (Kd.N_below (Kd.N_elderB (by (with_reducible repeat (first | apply Kd.N_alloc | apply Kd.N_drewN | apply Kd.N_drew)); exact HO366.out) gb377 (Nat.le_of_eq hg.symm)) hb); have n8_ := Aside0.mk (Kd.V_below (Kd.V_elderB (by (with_reducible repeat first|apply vA6|apply vN6|apply vD6); exact HO371.out) gb377 (Nat.le_of_eq hg.symm)) hb); have n9_ := Aside0.mk (blk_below (g := gb324) (o := .cells #[.int .i64 t315, .int .i64 t316, .slice Ao15 t317.length co15, .int .i64 t320, .int .i64 t321, .int .i64 t322] 27 (0, 0)) (by (with_reducible repeat first|apply zN6|apply zD6|apply zA6); exact BK324.out) hb); have n10_ := Aside0.mk (blk_below (g := gb334) (o := .cells #[.int .i64 t325, .int .i64 t326, .slice Ao21 t327.length co21, .int .i64 t330, .int .i64 t331, .int .i64 t332] 27 (0, 0)) (by (with_reducible repeat first|apply zN6|apply zD6|apply zA6); exact BK334.out) hb); have n11_ := Aside0.mk (blk_below (g := gb357) (o := .cells #[.int .i64 t348, .int .i64 t349, .slice Ao57 t350.length co57, .int .i64 t353, .int .i64 t354, .int .i64 t355] 27 (0, 0)) (by (with_reducible repeat first|apply zN6|apply zD6|apply zA6); exact BK357.out) hb); have n12_ := Aside0.mk (blk_below (g := gb376) (o := .cells #[.int .i64 t367, .int .i64 t368, .slice Ao69 t369.length co69, .int .i64 t372, .int .i64 t373, .int .i64 t374] 27 (0, 0)) (by (with_reducible repeat first|apply zN6|apply zD6|apply zA6); exact BK376.out) hb); have n13_ := Aside0.mk (below_step (by repeat (first | (with_reducible first | exact HB.out | apply below_alloc | apply pw_below_drewN | apply below_drew1 | refine below_set ?_ GE324.out | refine below_set ?_ GE334.out | refine below_set ?_ GE357.out | refine below_set ?_ GE376.out) | exact HB.out)) hb); have n14_ := Aside0.mk (hbox); have n15_ := Aside0.mk ((by rw [hg]; exact (below_size (by repeat (first | (with_reducible first | exact HB.out | apply below_alloc | apply pw_below_drewN | apply below_drew1 | refine below_set ?_ GE324.out | refine below_set ?_ GE334.out | refine below_set ?_ GE357.out | refine below_set ?_ GE376.out) | exact HB.out))) : w.heap.size ≤ gb377)); have n16_ := Aside0.mk ((by rw [hg]; exact (below_size (by repeat (first | (with_reducible first | exact HB.out | apply below_alloc | apply pw_below_drewN | apply below_drew1 | refine below_set ?_ GE324.out | refine below_set ?_ GE334.out | refine below_set ?_ GE357.out | refine below_set ?_ GE376.out) | exact HB.out))) : w.heap.size ≤ gb377)); have n17_ := Aside0.mk ((by rw [hg]; exact Nat.ne_of_lt (blk_lt (g := gb324) (o := .cells #[.int .i64 t315, .int .i64 t316, .slice Ao15 t317.length co15, .int .i64 t320, .int .i64 t321, .int .i64 t322] 27 (0, 0)) (by (with_reducible repeat first|apply zN6|apply zD6|apply zA6); exact BK324.out)) : gb324 ≠ gb377)); have n18_ := Aside0.mk ((by rw [hg]; exact Nat.ne_of_gt (blk_lt (g := gb324) (o := .cells #[.int .i64 t315, .int .i64 t316, .slice Ao15 t317.length co15, .int .i64 t320, .int .i64 t321, .int .i64 t322] 27 (0, 0)) (by (with_reducible repeat first|apply zN6|apply zD6|apply zA6); exact BK324.out)) : gb377 ≠ gb324)); have n19_ := Aside0.mk ((by rw [hg]; exact Nat.ne_of_lt (blk_lt (g := gb334) (o := .cells #[.int .i64 t325, .int .i64 t326, .slice Ao21 t327.length co21, .int .i64 t330, .int .i64 t331, .int .i64 t332] 27 (0, 0)) (by (with_reducible repeat first|apply zN6|apply zD6|apply zA6); exact BK334.out)) : gb334 ≠ gb377)); have n20_ := Aside0.mk ((by rw [hg]; exact Nat.ne_of_gt (blk_lt (g := gb334) (o := .cells #[.int .i64 t325, .int .i64 t326, .slice Ao21 t327.length co21, .int .i64 t330, .int .i64 t331, .int .i64 t332] 27 (0, 0)) (by (with_reducible repeat first|apply zN6|apply zD6|apply zA6); exact BK334.out)) : gb377 ≠ gb334)); have n21_ := Aside0.mk ((by rw [hg]; exact Nat.ne_of_lt (blk_lt (g := gb357) (o := .cells #[.int .i64 t348, .int .i64 t349, .slice Ao57 t350.length co57, .int .i64 t353, .int .i64 t354, .int .i64 t355] 27 (0, 0)) (by (with_reducible repeat first|apply zN6|apply zD6|apply zA6); exact BK357.out)) : gb357 ≠ gb377)); have n22_ := Aside0.mk ((by rw [hg]; exact Nat.ne_of_gt (blk_lt (g := gb357) (o := .cells #[.int .i64 t348, .int .i64 t349, .slice Ao57 t350.length co57, .int .i64 t353, .int .i64 t354, .int .i64 t355] 27 (0, 0)) (by (with_reducible repeat first|apply zN6|apply zD6|apply zA6); exact BK357.out)) : gb377 ≠ gb357)); have n23_ := Aside0.mk ((by rw [hg]; exact Nat.ne_of_lt (blk_lt (g := gb376) (o := .cells #[.int .i64 t367, .int .i64 t368, .slice Ao69 t369.length co69, .int .i64 t372, .int .i64 t373, .int .i64 t374] 27 (0, 0)) (by (with_reducible repeat first|apply zN6|apply zD6|apply zA6); exact BK376.out)) : gb376 ≠ gb377)); have n24_ := Aside0.mk ((by rw [hg]; exact Nat.ne_of_gt (blk_lt (g := gb376) (o := .cells #[.int .i64 t367, .int .i64 t368, .slice Ao69 t369.length co69, .int .i64 t372, .int .i64 t373, .int .i64 t374] 27 (0, 0)) (by (with_reducible repeat first|apply zN6|apply zD6|apply zA6); exact BK376.out)) : gb377 ≠ gb376)); clear HO_0; clear HO_1; clear HO_325002; clear HO_335002; clear HL344_2; clear HO347; clear HO352; clear HO366; clear HO371; clear BK324; clear BK334; clear BK357; clear BK376; clear HB; have HO_0 := n0_; have HO_1 := n1_; have HO_325002 := n2_; have HO_335002 := n3_; have HL344_2 := n4_; have HO347 := n5_; have HO352 := n6_; have HO366 := n7_; have HO371 := n8_; have BK324 := n9_; have BK334 := n10_; have BK357 := n11_; have BK376 := n12_; have HB := n13_; have BK377 := n14_; have GW377 := n15_; have GE377 := n16_; have NB324_377 := n17_; have NB377_324 := n18_; have NB334_377 := n19_; have NB377_334 := n20_; have NB357_377 := n21_; have NB377_357 := n22_; have NB376_377 := n23_; have NB377_376 := n24_; clear n0_ n1_ n2_ n3_ n4_ n5_ n6_ n7_ n8_ n9_ n10_ n11_ n12_ n13_ n14_ n15_ n16_ n17_ n18_ n19_ n20_ n21_ n22_ n23_ n24_; clear hb hbox hg; have hnb73 := NB377_324.out; have hnc73 := NB324_377.out; have hnb74 := NB377_334.out; have hnc74 := NB334_377.out; have hnb75 := NB377_357.out; have hnc75 := NB357_377.out; have hnb76 := NB377_376.out; have hnc76 := NB376_377.out; have hcz77_0 : w72.cell? ⟨gb377, 0, none⟩ = some (.int .i64 0) := (blk_cell BK377.out 0).trans rfl; have hcz77_1 : w72.cell? ⟨gb377, 1, none⟩ = some (.int .i64 0) := (blk_cell BK377.out 1).trans rfl; have hcz77_2 : w72.cell? ⟨gb377, 2, none⟩ = some (.slice none 0 0) := (blk_cell BK377.out 2).trans rfl; have hcz77_3 : w72.cell? ⟨gb377, 3, none⟩ = some (.int .i64 0) := (blk_cell BK377.out 3).trans rfl; have hcz77_4 : w72.cell? ⟨gb377, 4, none⟩ = some (.int .i64 0) := (blk_cell BK377.out 4).trans rfl; have hcz77_5 : w72.cell? ⟨gb377, 5, none⟩ = some (.int .i64 0) := (blk_cell BK377.out 5).trans rfl; have hfz77_0 := blk_frozen BK377.out 0; have hfz77_1 := blk_frozen BK377.out 1; have hfz77_2 := blk_frozen BK377.out 2; have hfz77_3 := blk_frozen BK377.out 3; have hfz77_4 := blk_frozen BK377.out 4; have hfz77_5 := blk_frozen BK377.out 5))
               (try simp only [Act.put, List.setIfInBounds_toArray, List.set_cons_zero, List.set_cons_succ])
               go_cut [116] (fun v116 wc => ∃ (kq : Nat) (x116_48 : Bool), v116 = .bool x116_48 ∧ Aside0 (ridgewaylaw09_RouteBest.j4 kq t312 t356 t375 x116_48 t315 t316 t317 t320 t321 t322 t325 t326 t327 t330 t331 t332 t348 t349 t350 t353 t354 t355 t367 t368 t369 t372 t373 t374 t315 t316 t317 t320 t321 t322 = some r) ∧ Aside0 (kq ≤ kj38) ∧ Aside0 (Kd.V (Kd.int .i64) 3 wc w.heap.size (fun k_ => ((P0_ k_ ∨ P1_ k_) ∨ w.heap.size ≤ k_) ∧ k_ ≠ gb324 ∧ k_ ≠ gb334 ∧ k_ ≠ gb357 ∧ k_ ≠ gb376 ∧ k_ ≠ gb377) (.slice Ao15 t317.length co15) t317) ∧ Aside0 (Kd.V (Kd.int .i64) 3 wc w.heap.size (fun k_ => ((P0_ k_ ∨ P1_ k_) ∨ w.heap.size ≤ k_) ∧ k_ ≠ gb324 ∧ k_ ≠ gb334 ∧ k_ ≠ gb357 ∧ k_ ≠ gb376 ∧ k_ ≠ gb377) (.slice Ao21 t327.length co21) t327) ∧ Aside0 (Kd.V (Kd.int .i64) 3 wc w.heap.size (fun k_ => ((P0_ k_ ∨ P1_ k_) ∨ w.heap.size ≤ k_) ∧ k_ ≠ gb324 ∧ k_ ≠ gb334 ∧ k_ ≠ gb357 ∧ k_ ≠ gb376 ∧ k_ ≠ gb377) (.slice Ao57 t350.length co57) t350) ∧ Aside0 (Kd.V (Kd.int .i64) 3 wc w.heap.size (fun k_ => ((P0_ k_ ∨ P1_ k_) ∨ w.heap.size ≤ k_) ∧ k_ ≠ gb324 ∧ k_ ≠ gb334 ∧ k_ ≠ gb357 ∧ k_ ≠ gb376 ∧ k_ ≠ gb377) (.slice Ao69 t369.length co69) t369) ∧ Aside0 (Kd.V (Kd.int .i64) 3 wc w.heap.size (fun k_ => ((P0_ k_ ∨ P1_ k_) ∨ w.heap.size ≤ k_) ∧ k_ ≠ gb324 ∧ k_ ≠ gb334 ∧ k_ ≠ gb357 ∧ k_ ≠ gb376 ∧ k_ ≠ gb377) (.slice Ao15 t317.length co15) t317) ∧ Aside0 (wc.heap[gb324]? = some (.cells #[.int .i64 t315, .int .i64 t316, (.slice Ao15 t317.length co15), .int .i64 t320, .int .i64 t321, .int .i64 t322] 27 (0, 0))) ∧ Aside0 (wc.heap[gb334]? = some (.cells #[.int .i64 t325, .int .i64 t326, (.slice Ao21 t327.length co21), .int .i64 t330, .int .i64 t331, .int .i64 t332] 27 (0, 0))) ∧ Aside0 (wc.heap[gb357]? = some (.cells #[.int .i64 t348, .int .i64 t349, (.slice Ao57 t350.length co57), .int .i64 t353, .int .i64 t354, .int .i64 t355] 27 (0, 0))) ∧ Aside0 (wc.heap[gb376]? = some (.cells #[.int .i64 t367, .int .i64 t368, (.slice Ao69 t369.length co69), .int .i64 t372, .int .i64 t373, .int .i64 t374] 27 (0, 0))) ∧ Aside0 (wc.heap[gb377]? = some (.cells #[.int .i64 t315, .int .i64 t316, (.slice Ao15 t317.length co15), .int .i64 t320, .int .i64 t321, .int .i64 t322] 27 (0, 0))) ∧ Aside0 (Below w.heap.size w wc))
               case first =>
                have H := HC49.out
                clear HC49
                by_cases c78 : t333 = true
                ·subst c78
                 have H1 : ((route_Compare.f t325 t326 t327 t330 t331 t332 t315 t316 t317 t320 t321 t322).bind fun t378 => (ridgewaylaw09_RouteBest.j4 kj38 t312 t356 t375 (decide (t378 < 0)) t315 t316 t317 t320 t321 t322 t325 t326 t327 t330 t331 t332 t348 t349 t350 t353 t354 t355 t367 t368 t369 t372 t373 t374 t315 t316 t317 t320 t321 t322)) = some r := by rw [if_pos rfl] at H; exact H
                 clear H
                 have H := H1
                 clear H1
                 replace H := Option.bind_eq_some_iff.mp H
                 obtain ⟨t378, A790, H⟩ := H
                 replace H : (ridgewaylaw09_RouteBest.j4 kj38 t312 t356 t375 (decide (t378 < 0)) t315 t316 t317 t320 t321 t322 t325 t326 t327 t330 t331 t332 t348 t349 t350 t353 t354 t355 t367 t368 t369 t372 t373 t374 t315 t316 t317 t320 t321 t322) = some r := H
                 have A79 := Aside0.mk A790
                 clear A790
                 have H' := Aside0.mk H
                 clear H
                 have hnb80 := NB334_324.out
                 have hnc80 := NB324_334.out
                 have hnb81 := NB334_357.out
                 have hnc81 := NB357_334.out
                 have hnb82 := NB334_376.out
                 have hnc82 := NB376_334.out
                 have hnb83 := NB334_377.out
                 have hnc83 := NB377_334.out
                 have hcz84_0 : w72.cell? ⟨gb334, 0, none⟩ = some (.int .i64 t325) := (blk_cell BK334.out 0).trans rfl
                 have hcz84_1 : w72.cell? ⟨gb334, 1, none⟩ = some (.int .i64 t326) := (blk_cell BK334.out 1).trans rfl
                 have hcz84_2 : w72.cell? ⟨gb334, 2, none⟩ = some (.slice Ao21 t327.length co21) := (blk_cell BK334.out 2).trans rfl
                 have hcz84_3 : w72.cell? ⟨gb334, 3, none⟩ = some (.int .i64 t330) := (blk_cell BK334.out 3).trans rfl
                 have hcz84_4 : w72.cell? ⟨gb334, 4, none⟩ = some (.int .i64 t331) := (blk_cell BK334.out 4).trans rfl
                 have hcz84_5 : w72.cell? ⟨gb334, 5, none⟩ = some (.int .i64 t332) := (blk_cell BK334.out 5).trans rfl
                 have hfz84_0 := blk_frozen BK334.out 0
                 have hfz84_1 := blk_frozen BK334.out 1
                 have hfz84_2 := blk_frozen BK334.out 2
                 have hfz84_3 := blk_frozen BK334.out 3
                 have hfz84_4 := blk_frozen BK334.out 4
                 have hfz84_5 := blk_frozen BK334.out 5
                 have hnb85 := NB324_357.out
                 have hnc85 := NB357_324.out
                 have hnb86 := NB324_376.out
                 have hnc86 := NB376_324.out
                 have hnb87 := NB324_377.out
                 have hnc87 := NB377_324.out
                 have hcz88_0 : w72.cell? ⟨gb324, 0, none⟩ = some (.int .i64 t315) := (blk_cell BK324.out 0).trans rfl
                 have hcz88_1 : w72.cell? ⟨gb324, 1, none⟩ = some (.int .i64 t316) := (blk_cell BK324.out 1).trans rfl
                 have hcz88_2 : w72.cell? ⟨gb324, 2, none⟩ = some (.slice Ao15 t317.length co15) := (blk_cell BK324.out 2).trans rfl
                 have hcz88_3 : w72.cell? ⟨gb324, 3, none⟩ = some (.int .i64 t320) := (blk_cell BK324.out 3).trans rfl
                 have hcz88_4 : w72.cell? ⟨gb324, 4, none⟩ = some (.int .i64 t321) := (blk_cell BK324.out 4).trans rfl
                 have hcz88_5 : w72.cell? ⟨gb324, 5, none⟩ = some (.int .i64 t322) := (blk_cell BK324.out 5).trans rfl
                 have hfz88_0 := blk_frozen BK324.out 0
                 have hfz88_1 := blk_frozen BK324.out 1
                 have hfz88_2 := blk_frozen BK324.out 2
                 have hfz88_3 := blk_frozen BK324.out 3
                 have hfz88_4 := blk_frozen BK324.out 4
                 have hfz88_5 := blk_frozen BK324.out 5
                 go_wp2_with (first | (go_at_call 10; (with_reducible refine (route_Compare.calls t325 t326 _ _ t327 t330 t331 t332 t315 t316 _ _ t317 t320 t321 t322 t378 _ ?side1 ?side2 ?side3 ?side4 A79.out).mono ?_); (case side1 => refine (Kd.V_reads' (e := 3) (base := w.heap.size) (ok := fun k_ => ((((((P0_ k_ ∨ P1_ k_) ∨ w.heap.size ≤ k_) ∧ (some k_ ≠ (.slice Ao51 y345.length co51 : Value).ownBlock ∧ (k_ ≠ gb324 ∧ (k_ ≠ gb334 ∧ k_ ≠ gb357)))) ∧ some k_ ≠ (.slice Ao62 y364.length co62 : Value).ownBlock) ∧ k_ ≠ gb376) ∧ k_ ≠ gb377)) (n := t327.length) (c := co21) ?_).2.2; exact (by (with_reducible repeat first|apply vA6|apply vN6|apply vD6); exact (Kd.V_mono (Kd.V_far (p := ⟨gb377, 5, none⟩) (Kd.V_far (p := ⟨gb377, 4, none⟩) (Kd.V_far (p := ⟨gb377, 3, none⟩) (Kd.V_far (p := ⟨gb377, 2, none⟩) (Kd.V_far (p := ⟨gb377, 1, none⟩) (Kd.V_far (p := ⟨gb377, 0, none⟩) (Kd.V_mono HO_335002.out (fun k_ hk => (⟨hk, hk.2⟩ : _ ∧ k_ ≠ gb377))) (fun _ hk => hk.2) (.int .i64 t315)) (fun _ hk => hk.2) (.int .i64 t316)) (fun _ hk => hk.2) (.slice Ao15 t317.length co15)) (fun _ hk => hk.2) (.int .i64 t320)) (fun _ hk => hk.2) (.int .i64 t321)) (fun _ hk => hk.2) (.int .i64 t322)) (fun _ h_ => h_.1)))); (case side2 => exact (Kd.V_reads' HO_335002.out).2.1); (case side3 => refine (Kd.V_reads' (e := 3) (base := w.heap.size) (ok := fun k_ => ((((((P0_ k_ ∨ P1_ k_) ∨ w.heap.size ≤ k_) ∧ (some k_ ≠ (.slice Ao51 y345.length co51 : Value).ownBlock ∧ (k_ ≠ gb324 ∧ (k_ ≠ gb334 ∧ k_ ≠ gb357)))) ∧ some k_ ≠ (.slice Ao62 y364.length co62 : Value).ownBlock) ∧ k_ ≠ gb376) ∧ k_ ≠ gb377)) (n := t317.length) (c := co15) ?_).2.2; exact (by (with_reducible repeat first|apply vA6|apply vN6|apply vD6); exact (Kd.V_mono (Kd.V_far (p := ⟨gb377, 5, none⟩) (Kd.V_far (p := ⟨gb377, 4, none⟩) (Kd.V_far (p := ⟨gb377, 3, none⟩) (Kd.V_far (p := ⟨gb377, 2, none⟩) (Kd.V_far (p := ⟨gb377, 1, none⟩) (Kd.V_far (p := ⟨gb377, 0, none⟩) (Kd.V_mono HO_325002.out (fun k_ hk => (⟨hk, hk.2⟩ : _ ∧ k_ ≠ gb377))) (fun _ hk => hk.2) (.int .i64 t315)) (fun _ hk => hk.2) (.int .i64 t316)) (fun _ hk => hk.2) (.slice Ao15 t317.length co15)) (fun _ hk => hk.2) (.int .i64 t320)) (fun _ hk => hk.2) (.int .i64 t321)) (fun _ hk => hk.2) (.int .i64 t322)) (fun _ h_ => h_.1)))); (case side4 => exact (Kd.V_reads' HO_325002.out).2.1); rintro e w89 ⟨rfl, hb⟩; have n0_ := Aside0.mk (Kd.V_below (by (with_reducible repeat first|apply vA6|apply vN6|apply vD6); exact (Kd.V_mono (Kd.V_far (p := ⟨gb377, 5, none⟩) (Kd.V_far (p := ⟨gb377, 4, none⟩) (Kd.V_far (p := ⟨gb377, 3, none⟩) (Kd.V_far (p := ⟨gb377, 2, none⟩) (Kd.V_far (p := ⟨gb377, 1, none⟩) (Kd.V_far (p := ⟨gb377, 0, none⟩) (Kd.V_mono HO_0.out (fun k_ hk => (⟨hk, hk.2⟩ : _ ∧ k_ ≠ gb377))) (fun _ hk => hk.2) (.int .i64 t315)) (fun _ hk => hk.2) (.int .i64 t316)) (fun _ hk => hk.2) (.slice Ao15 t317.length co15)) (fun _ hk => hk.2) (.int .i64 t320)) (fun _ hk => hk.2) (.int .i64 t321)) (fun _ hk => hk.2) (.int .i64 t322)) (fun _ h_ => h_.1))) hb); have n1_ := Aside0.mk (Kd.V_below (by (with_reducible repeat first|apply vA6|apply vN6|apply vD6); exact (Kd.V_mono (Kd.V_far (p := ⟨gb377, 5, none⟩) (Kd.V_far (p := ⟨gb377, 4, none⟩) (Kd.V_far (p := ⟨gb377, 3, none⟩) (Kd.V_far (p := ⟨gb377, 2, none⟩) (Kd.V_far (p := ⟨gb377, 1, none⟩) (Kd.V_far (p := ⟨gb377, 0, none⟩) (Kd.V_mono HO_1.out (fun k_ hk => (⟨hk, hk.2⟩ : _ ∧ k_ ≠ gb377))) (fun _ hk => hk.2) (.int .i64 t315)) (fun _ hk => hk.2) (.int .i64 t316)) (fun _ hk => hk.2) (.slice Ao15 t317.length co15)) (fun _ hk => hk.2) (.int .i64 t320)) (fun _ hk => hk.2) (.int .i64 t321)) (fun _ hk => hk.2) (.int .i64 t322)) (fun _ h_ => h_.1))) hb); have n2_ := Aside0.mk (Kd.V_below (by (with_reducible repeat first|apply vA6|apply vN6|apply vD6); exact (Kd.V_mono (Kd.V_far (p := ⟨gb377, 5, none⟩) (Kd.V_far (p := ⟨gb377, 4, none⟩) (Kd.V_far (p := ⟨gb377, 3, none⟩) (Kd.V_far (p := ⟨gb377, 2, none⟩) (Kd.V_far (p := ⟨gb377, 1, none⟩) (Kd.V_far (p := ⟨gb377, 0, none⟩) (Kd.V_mono HO_325002.out (fun k_ hk => (⟨hk, hk.2⟩ : _ ∧ k_ ≠ gb377))) (fun _ hk => hk.2) (.int .i64 t315)) (fun _ hk => hk.2) (.int .i64 t316)) (fun _ hk => hk.2) (.slice Ao15 t317.length co15)) (fun _ hk => hk.2) (.int .i64 t320)) (fun _ hk => hk.2) (.int .i64 t321)) (fun _ hk => hk.2) (.int .i64 t322)) (fun _ h_ => h_.1))) hb); have n3_ := Aside0.mk (Kd.V_below (by (with_reducible repeat first|apply vA6|apply vN6|apply vD6); exact (Kd.V_mono (Kd.V_far (p := ⟨gb377, 5, none⟩) (Kd.V_far (p := ⟨gb377, 4, none⟩) (Kd.V_far (p := ⟨gb377, 3, none⟩) (Kd.V_far (p := ⟨gb377, 2, none⟩) (Kd.V_far (p := ⟨gb377, 1, none⟩) (Kd.V_far (p := ⟨gb377, 0, none⟩) (Kd.V_mono HO_335002.out (fun k_ hk => (⟨hk, hk.2⟩ : _ ∧ k_ ≠ gb377))) (fun _ hk => hk.2) (.int .i64 t315)) (fun _ hk => hk.2) (.int .i64 t316)) (fun _ hk => hk.2) (.slice Ao15 t317.length co15)) (fun _ hk => hk.2) (.int .i64 t320)) (fun _ hk => hk.2) (.int .i64 t321)) (fun _ hk => hk.2) (.int .i64 t322)) (fun _ h_ => h_.1))) hb); have n4_ := Aside0.mk (Kd.V_below (by (with_reducible repeat first|apply vA6|apply vN6|apply vD6); exact (Kd.V_mono (Kd.V_far (p := ⟨gb377, 5, none⟩) (Kd.V_far (p := ⟨gb377, 4, none⟩) (Kd.V_far (p := ⟨gb377, 3, none⟩) (Kd.V_far (p := ⟨gb377, 2, none⟩) (Kd.V_far (p := ⟨gb377, 1, none⟩) (Kd.V_far (p := ⟨gb377, 0, none⟩) (Kd.V_mono HL344_2.out (fun k_ hk => (⟨hk, hk.2⟩ : _ ∧ k_ ≠ gb377))) (fun _ hk => hk.2) (.int .i64 t315)) (fun _ hk => hk.2) (.int .i64 t316)) (fun _ hk => hk.2) (.slice Ao15 t317.length co15)) (fun _ hk => hk.2) (.int .i64 t320)) (fun _ hk => hk.2) (.int .i64 t321)) (fun _ hk => hk.2) (.int .i64 t322)) (fun _ h_ => h_.1))) hb); have n5_ := Aside0.mk (Kd.N_below (by (with_reducible repeat (first | apply Kd.N_alloc | apply Kd.N_drewN | apply Kd.N_drew)); exact (Kd.N_mono (Kd.N_far (p := ⟨gb377, 5, none⟩) (Kd.N_far (p := ⟨gb377, 4, none⟩) (Kd.N_far (p := ⟨gb377, 3, none⟩) (Kd.N_far (p := ⟨gb377, 2, none⟩) (Kd.N_far (p := ⟨gb377, 1, none⟩) (Kd.N_far (p := ⟨gb377, 0, none⟩) (Kd.N_mono HO347.out (fun k_ hk => (⟨hk, hk.2⟩ : _ ∧ k_ ≠ gb377))) (fun _ hk => hk.2) (.int .i64 t315)) (fun _ hk => hk.2) (.int .i64 t316)) (fun _ hk => hk.2) (.slice Ao15 t317.length co15)) (fun _ hk => hk.2) (.int .i64 t320)) (fun _ hk => hk.2) (.int .i64 t321)) (fun _ hk => hk.2) (.int .i64 t322)) (fun _ h_ => h_.1))) hb); have n6_ := Aside0.mk (Kd.V_below (by (with_reducible repeat first|apply vA6|apply vN6|apply vD6); exact (Kd.V_mono (Kd.V_far (p := ⟨gb377, 5, none⟩) (Kd.V_far (p := ⟨gb377, 4, none⟩) (Kd.V_far (p := ⟨gb377, 3, none⟩) (Kd.V_far (p := ⟨gb377, 2, none⟩) (Kd.V_far (p := ⟨gb377, 1, none⟩) (Kd.V_far (p := ⟨gb377, 0, none⟩) (Kd.V_mono HO352.out (fun k_ hk => (⟨hk, hk.2⟩ : _ ∧ k_ ≠ gb377))) (fun _ hk => hk.2) (.int .i64 t315)) (fun _ hk => hk.2) (.int .i64 t316)) (fun _ hk => hk.2) (.slice Ao15 t317.length co15)) (fun _ hk => hk.2) (.int .i64 t320)) (fun _ hk => hk.2) (.int .i64 t321)) (fun _ hk => hk.2) (.int .i64 t322)) (fun _ h_ => h_.1))) hb); have n7_ := Aside0.mk (Kd.N_below (by (with_reducible repeat (first | apply Kd.N_alloc | apply Kd.N_drewN | apply Kd.N_drew)); exact (Kd.N_mono (Kd.N_far (p := ⟨gb377, 5, none⟩) (Kd.N_far (p := ⟨gb377, 4, none⟩) (Kd.N_far (p := ⟨gb377, 3, none⟩) (Kd.N_far (p := ⟨gb377, 2, none⟩) (Kd.N_far (p := ⟨gb377, 1, none⟩) (Kd.N_far (p := ⟨gb377, 0, none⟩) (Kd.N_mono HO366.out (fun k_ hk => (⟨hk, hk.2⟩ : _ ∧ k_ ≠ gb377))) (fun _ hk => hk.2) (.int .i64 t315)) (fun _ hk => hk.2) (.int .i64 t316)) (fun _ hk => hk.2) (.slice Ao15 t317.length co15)) (fun _ hk => hk.2) (.int .i64 t320)) (fun _ hk => hk.2) (.int .i64 t321)) (fun _ hk => hk.2) (.int .i64 t322)) (fun _ h_ => h_.1))) hb); have n8_ := Aside0.mk (Kd.V_below (by (with_reducible repeat first|apply vA6|apply vN6|apply vD6); exact (Kd.V_mono (Kd.V_far (p := ⟨gb377, 5, none⟩) (Kd.V_far (p := ⟨gb377, 4, none⟩) (Kd.V_far (p := ⟨gb377, 3, none⟩) (Kd.V_far (p := ⟨gb377, 2, none⟩) (Kd.V_far (p := ⟨gb377, 1, none⟩) (Kd.V_far (p := ⟨gb377, 0, none⟩) (Kd.V_mono HO371.out (fun k_ hk => (⟨hk, hk.2⟩ : _ ∧ k_ ≠ gb377))) (fun _ hk => hk.2) (.int .i64 t315)) (fun _ hk => hk.2) (.int .i64 t316)) (fun _ hk => hk.2) (.slice Ao15 t317.length co15)) (fun _ hk => hk.2) (.int .i64 t320)) (fun _ hk => hk.2) (.int .i64 t321)) (fun _ hk => hk.2) (.int .i64 t322)) (fun _ h_ => h_.1))) hb); have n9_ := Aside0.mk (blk_below (g := gb324) (o := .cells #[.int .i64 t315, .int .i64 t316, .slice Ao15 t317.length co15, .int .i64 t320, .int .i64 t321, .int .i64 t322] 27 (0, 0)) (by (with_reducible repeat first|apply zN6|apply zD6|apply zA6); refine blk_far ?_ NB324_377.out _; (with_reducible repeat first|apply zN6|apply zD6|apply zA6); refine blk_far ?_ NB324_377.out _; (with_reducible repeat first|apply zN6|apply zD6|apply zA6); refine blk_far ?_ NB324_377.out _; (with_reducible repeat first|apply zN6|apply zD6|apply zA6); refine blk_far ?_ NB324_377.out _; (with_reducible repeat first|apply zN6|apply zD6|apply zA6); refine blk_far ?_ NB324_377.out _; (with_reducible repeat first|apply zN6|apply zD6|apply zA6); refine blk_far ?_ NB324_377.out _; (with_reducible repeat first|apply zN6|apply zD6|apply zA6); exact BK324.out) hb); have n10_ := Aside0.mk (blk_below (g := gb334) (o := .cells #[.int .i64 t325, .int .i64 t326, .slice Ao21 t327.length co21, .int .i64 t330, .int .i64 t331, .int .i64 t332] 27 (0, 0)) (by (with_reducible repeat first|apply zN6|apply zD6|apply zA6); refine blk_far ?_ NB334_377.out _; (with_reducible repeat first|apply zN6|apply zD6|apply zA6); refine blk_far ?_ NB334_377.out _; (with_reducible repeat first|apply zN6|apply zD6|apply zA6); refine blk_far ?_ NB334_377.out _; (with_reducible repeat first|apply zN6|apply zD6|apply zA6); refine blk_far ?_ NB334_377.out _; (with_reducible repeat first|apply zN6|apply zD6|apply zA6); refine blk_far ?_ NB334_377.out _; (with_reducible repeat first|apply zN6|apply zD6|apply zA6); refine blk_far ?_ NB334_377.out _; (with_reducible repeat first|apply zN6|apply zD6|apply zA6); exact BK334.out) hb); have n11_ := Aside0.mk (blk_below (g := gb357) (o := .cells #[.int .i64 t348, .int .i64 t349, .slice Ao57 t350.length co57, .int .i64 t353, .int .i64 t354, .int .i64 t355] 27 (0, 0)) (by (with_reducible repeat first|apply zN6|apply zD6|apply zA6); refine blk_far ?_ NB357_377.out _; (with_reducible repeat first|apply zN6|apply zD6|apply zA6); refine blk_far ?_ NB357_377.out _; (with_reducible repeat first|apply zN6|apply zD6|apply zA6); refine blk_far ?_ NB357_377.out _; (with_reducible repeat first|apply zN6|apply zD6|apply zA6); refine blk_far ?_ NB357_377.out _; (with_reducible repeat first|apply zN6|apply zD6|apply zA6); refine blk_far ?_ NB357_377.out _; (with_reducible repeat first|apply zN6|apply zD6|apply zA6); refine blk_far ?_ NB357_377.out _; (with_reducible repeat first|apply zN6|apply zD6|apply zA6); exact BK357.out) hb); have n12_ := Aside0.mk (blk_below (g := gb376) (o := .cells #[.int .i64 t367, .int .i64 t368, .slice Ao69 t369.length co69, .int .i64 t372, .int .i64 t373, .int .i64 t374] 27 (0, 0)) (by (with_reducible repeat first|apply zN6|apply zD6|apply zA6); refine blk_far ?_ NB376_377.out _; (with_reducible repeat first|apply zN6|apply zD6|apply zA6); refine blk_far ?_ NB376_377.out _; (with_reducible repeat first|apply zN6|apply zD6|apply zA6); refine blk_far ?_ NB376_377.out _; (with_reducible repeat first|apply zN6|apply zD6|apply zA6); refine blk_far ?_ NB376_377.out _; (with_reducible repeat first|apply zN6|apply zD6|apply zA6); refine blk_far ?_ NB376_377.out _; (with_reducible repeat first|apply zN6|apply zD6|apply zA6); refine blk_far ?_ NB376_377.out _; (with_reducible repeat first|apply zN6|apply zD6|apply zA6); exact BK376.out) hb); have n13_ := Aside0.mk (blk_below (g := gb377) (o := .cells #[.int .i64 t315, .int .i64 t316, .slice Ao15 t317.length co15, .int .i64 t320, .int .i64 t321, .int .i64 t322] 27 (0, 0)) (by (with_reducible repeat first|apply zN6|apply zD6|apply zA6); refine blk_put (cs := #[.int .i64 t315, .int .i64 t316, .slice Ao15 t317.length co15, .int .i64 t320, .int .i64 t321, .int .i64 0]) ?_ 5 _ rfl; (with_reducible repeat first|apply zN6|apply zD6|apply zA6); refine blk_put (cs := #[.int .i64 t315, .int .i64 t316, .slice Ao15 t317.length co15, .int .i64 t320, .int .i64 0, .int .i64 0]) ?_ 4 _ rfl; (with_reducible repeat first|apply zN6|apply zD6|apply zA6); refine blk_put (cs := #[.int .i64 t315, .int .i64 t316, .slice Ao15 t317.length co15, .int .i64 0, .int .i64 0, .int .i64 0]) ?_ 3 _ rfl; (with_reducible repeat first|apply zN6|apply zD6|apply zA6); refine blk_put (cs := #[.int .i64 t315, .int .i64 t316, .slice none 0 0, .int .i64 0, .int .i64 0, .int .i64 0]) ?_ 2 _ rfl; (with_reducible repeat first|apply zN6|apply zD6|apply zA6); refine blk_put (cs := #[.int .i64 t315, .int .i64 0, .slice none 0 0, .int .i64 0, .int .i64 0, .int .i64 0]) ?_ 1 _ rfl; (with_reducible repeat first|apply zN6|apply zD6|apply zA6); refine blk_put (cs := #[.int .i64 0, .int .i64 0, .slice none 0 0, .int .i64 0, .int .i64 0, .int .i64 0]) ?_ 0 _ rfl; (with_reducible repeat first|apply zN6|apply zD6|apply zA6); exact BK377.out) hb); have n14_ := Aside0.mk (below_step (by repeat (first | (with_reducible first | exact HB.out | apply below_alloc | apply pw_below_drewN | apply below_drew1 | refine below_set ?_ GE324.out | refine below_set ?_ GE334.out | refine below_set ?_ GE357.out | refine below_set ?_ GE376.out | refine below_set ?_ GE377.out) | exact HB.out)) hb); clear HO_0; clear HO_1; clear HO_325002; clear HO_335002; clear HL344_2; clear HO347; clear HO352; clear HO366; clear HO371; clear BK324; clear BK334; clear BK357; clear BK376; clear BK377; clear HB; have HO_0 := n0_; have HO_1 := n1_; have HO_325002 := n2_; have HO_335002 := n3_; have HL344_2 := n4_; have HO347 := n5_; have HO352 := n6_; have HO366 := n7_; have HO371 := n8_; have BK324 := n9_; have BK334 := n10_; have BK357 := n11_; have BK376 := n12_; have BK377 := n13_; have HB := n14_; clear n0_ n1_ n2_ n3_ n4_ n5_ n6_ n7_ n8_ n9_ n10_ n11_ n12_ n13_ n14_; (try clear hb); (try clear hb2); (try clear hk); (try clear hi)))
                 go_meet
                 case rel => exact ⟨_, (decide (t378 < 0)), (by first | rfl | (simp; done) | (simp [*]; done)), H', ⟨by have := HJ3.out; have := HK2.out; have := HJ38.out; first | omega | exact Nat.le_refl _⟩, ⟨by (with_reducible repeat first|apply vA6|apply vN6|apply vD6); exact Kd.V_mono HO_325002.out (fun _ hk => ⟨hk.1.1.1.1, ⟨hk.1.1.1.2.2.1, ⟨hk.1.1.1.2.2.2.1, ⟨hk.1.1.1.2.2.2.2, ⟨hk.1.2, hk.2⟩⟩⟩⟩⟩)⟩, ⟨by (with_reducible repeat first|apply vA6|apply vN6|apply vD6); exact Kd.V_mono HO_335002.out (fun _ hk => ⟨hk.1.1.1.1, ⟨hk.1.1.1.2.2.1, ⟨hk.1.1.1.2.2.2.1, ⟨hk.1.1.1.2.2.2.2, ⟨hk.1.2, hk.2⟩⟩⟩⟩⟩)⟩, ⟨by (with_reducible repeat first|apply vA6|apply vN6|apply vD6); exact Kd.V_mono HO352.out (fun _ hk => ⟨hk.1.1.1.1, ⟨hk.1.1.1.2.1, ⟨hk.1.1.1.2.2.1, ⟨hk.1.1.1.2.2.2, ⟨hk.1.2, hk.2⟩⟩⟩⟩⟩)⟩, ⟨by (with_reducible repeat first|apply vA6|apply vN6|apply vD6); exact Kd.V_mono HO371.out (fun _ hk => ⟨hk.1.1.1, ⟨hk.1.1.2.2.1, ⟨hk.1.1.2.2.2.1, ⟨hk.1.1.2.2.2.2, ⟨hk.1.2, hk.2⟩⟩⟩⟩⟩)⟩, ⟨by (with_reducible repeat first|apply vA6|apply vN6|apply vD6); exact Kd.V_mono HO_325002.out (fun _ hk => ⟨hk.1.1.1.1, ⟨hk.1.1.1.2.2.1, ⟨hk.1.1.1.2.2.2.1, ⟨hk.1.1.1.2.2.2.2, ⟨hk.1.2, hk.2⟩⟩⟩⟩⟩)⟩, ⟨by (with_reducible repeat first|apply zN6|apply zD6|apply zA6); exact BK324.out⟩, ⟨by (with_reducible repeat first|apply zN6|apply zD6|apply zA6); exact BK334.out⟩, ⟨by (with_reducible repeat first|apply zN6|apply zD6|apply zA6); exact BK357.out⟩, ⟨by (with_reducible repeat first|apply zN6|apply zD6|apply zA6); exact BK376.out⟩, ⟨by (with_reducible repeat first|apply zN6|apply zD6|apply zA6); exact BK377.out⟩, ⟨by repeat (first | (with_reducible first | exact HB.out | apply below_alloc | apply pw_below_drewN | apply below_drew1 | refine below_set ?_ GE324.out | refine below_set ?_ GE334.out | refine below_set ?_ GE357.out | refine below_set ?_ GE376.out | refine below_set ?_ GE377.out) | exact HB.out)⟩⟩
                ·replace c78 := Bool.eq_false_iff.mpr c78
                 subst c78
                 have H1 : (ridgewaylaw09_RouteBest.j4 kj38 t312 t356 t375 false t315 t316 t317 t320 t321 t322 t325 t326 t327 t330 t331 t332 t348 t349 t350 t353 t354 t355 t367 t368 t369 t372 t373 t374 t315 t316 t317 t320 t321 t322) = some r := by rw [if_neg (show ¬ (false = true) by decide)] at H; exact H
                 clear H
                 have H := H1
                 clear H1
                 have H' := Aside0.mk H
                 clear H
                 go_wp2
                 go_meet
                 case rel => exact ⟨_, (false), (by first | rfl | (simp; done) | (simp [*]; done)), H', ⟨by have := HJ3.out; have := HK2.out; have := HJ38.out; first | omega | exact Nat.le_refl _⟩, ⟨by (with_reducible repeat first|apply vA6|apply vN6|apply vD6); exact Kd.V_mono (Kd.V_far (p := ⟨gb377, 5, none⟩) (Kd.V_far (p := ⟨gb377, 4, none⟩) (Kd.V_far (p := ⟨gb377, 3, none⟩) (Kd.V_far (p := ⟨gb377, 2, none⟩) (Kd.V_far (p := ⟨gb377, 1, none⟩) (Kd.V_far (p := ⟨gb377, 0, none⟩) (Kd.V_mono HO_325002.out (fun k_ hk => (⟨hk, hk.2⟩ : _ ∧ k_ ≠ gb377))) (fun _ hk => hk.2) (.int .i64 t315)) (fun _ hk => hk.2) (.int .i64 t316)) (fun _ hk => hk.2) (.slice Ao15 t317.length co15)) (fun _ hk => hk.2) (.int .i64 t320)) (fun _ hk => hk.2) (.int .i64 t321)) (fun _ hk => hk.2) (.int .i64 t322)) (fun _ hk => ⟨hk.1.1.1.1.1, ⟨hk.1.1.1.1.2.2.1, ⟨hk.1.1.1.1.2.2.2.1, ⟨hk.1.1.1.1.2.2.2.2, ⟨hk.1.1.2, hk.1.2⟩⟩⟩⟩⟩)⟩, ⟨by (with_reducible repeat first|apply vA6|apply vN6|apply vD6); exact Kd.V_mono (Kd.V_far (p := ⟨gb377, 5, none⟩) (Kd.V_far (p := ⟨gb377, 4, none⟩) (Kd.V_far (p := ⟨gb377, 3, none⟩) (Kd.V_far (p := ⟨gb377, 2, none⟩) (Kd.V_far (p := ⟨gb377, 1, none⟩) (Kd.V_far (p := ⟨gb377, 0, none⟩) (Kd.V_mono HO_335002.out (fun k_ hk => (⟨hk, hk.2⟩ : _ ∧ k_ ≠ gb377))) (fun _ hk => hk.2) (.int .i64 t315)) (fun _ hk => hk.2) (.int .i64 t316)) (fun _ hk => hk.2) (.slice Ao15 t317.length co15)) (fun _ hk => hk.2) (.int .i64 t320)) (fun _ hk => hk.2) (.int .i64 t321)) (fun _ hk => hk.2) (.int .i64 t322)) (fun _ hk => ⟨hk.1.1.1.1.1, ⟨hk.1.1.1.1.2.2.1, ⟨hk.1.1.1.1.2.2.2.1, ⟨hk.1.1.1.1.2.2.2.2, ⟨hk.1.1.2, hk.1.2⟩⟩⟩⟩⟩)⟩, ⟨by (with_reducible repeat first|apply vA6|apply vN6|apply vD6); exact Kd.V_mono (Kd.V_far (p := ⟨gb377, 5, none⟩) (Kd.V_far (p := ⟨gb377, 4, none⟩) (Kd.V_far (p := ⟨gb377, 3, none⟩) (Kd.V_far (p := ⟨gb377, 2, none⟩) (Kd.V_far (p := ⟨gb377, 1, none⟩) (Kd.V_far (p := ⟨gb377, 0, none⟩) (Kd.V_mono HO352.out (fun k_ hk => (⟨hk, hk.2⟩ : _ ∧ k_ ≠ gb377))) (fun _ hk => hk.2) (.int .i64 t315)) (fun _ hk => hk.2) (.int .i64 t316)) (fun _ hk => hk.2) (.slice Ao15 t317.length co15)) (fun _ hk => hk.2) (.int .i64 t320)) (fun _ hk => hk.2) (.int .i64 t321)) (fun _ hk => hk.2) (.int .i64 t322)) (fun _ hk => ⟨hk.1.1.1.1.1, ⟨hk.1.1.1.1.2.1, ⟨hk.1.1.1.1.2.2.1, ⟨hk.1.1.1.1.2.2.2, ⟨hk.1.1.2, hk.1.2⟩⟩⟩⟩⟩)⟩, ⟨by (with_reducible repeat first|apply vA6|apply vN6|apply vD6); exact Kd.V_mono (Kd.V_far (p := ⟨gb377, 5, none⟩) (Kd.V_far (p := ⟨gb377, 4, none⟩) (Kd.V_far (p := ⟨gb377, 3, none⟩) (Kd.V_far (p := ⟨gb377, 2, none⟩) (Kd.V_far (p := ⟨gb377, 1, none⟩) (Kd.V_far (p := ⟨gb377, 0, none⟩) (Kd.V_mono HO371.out (fun k_ hk => (⟨hk, hk.2⟩ : _ ∧ k_ ≠ gb377))) (fun _ hk => hk.2) (.int .i64 t315)) (fun _ hk => hk.2) (.int .i64 t316)) (fun _ hk => hk.2) (.slice Ao15 t317.length co15)) (fun _ hk => hk.2) (.int .i64 t320)) (fun _ hk => hk.2) (.int .i64 t321)) (fun _ hk => hk.2) (.int .i64 t322)) (fun _ hk => ⟨hk.1.1.1.1, ⟨hk.1.1.1.2.2.1, ⟨hk.1.1.1.2.2.2.1, ⟨hk.1.1.1.2.2.2.2, ⟨hk.1.1.2, hk.1.2⟩⟩⟩⟩⟩)⟩, ⟨by (with_reducible repeat first|apply vA6|apply vN6|apply vD6); exact Kd.V_mono (Kd.V_far (p := ⟨gb377, 5, none⟩) (Kd.V_far (p := ⟨gb377, 4, none⟩) (Kd.V_far (p := ⟨gb377, 3, none⟩) (Kd.V_far (p := ⟨gb377, 2, none⟩) (Kd.V_far (p := ⟨gb377, 1, none⟩) (Kd.V_far (p := ⟨gb377, 0, none⟩) (Kd.V_mono HO_325002.out (fun k_ hk => (⟨hk, hk.2⟩ : _ ∧ k_ ≠ gb377))) (fun _ hk => hk.2) (.int .i64 t315)) (fun _ hk => hk.2) (.int .i64 t316)) (fun _ hk => hk.2) (.slice Ao15 t317.length co15)) (fun _ hk => hk.2) (.int .i64 t320)) (fun _ hk => hk.2) (.int .i64 t321)) (fun _ hk => hk.2) (.int .i64 t322)) (fun _ hk => ⟨hk.1.1.1.1.1, ⟨hk.1.1.1.1.2.2.1, ⟨hk.1.1.1.1.2.2.2.1, ⟨hk.1.1.1.1.2.2.2.2, ⟨hk.1.1.2, hk.1.2⟩⟩⟩⟩⟩)⟩, ⟨by (with_reducible repeat first|apply zN6|apply zD6|apply zA6); refine blk_far ?_ NB324_377.out _; (with_reducible repeat first|apply zN6|apply zD6|apply zA6); refine blk_far ?_ NB324_377.out _; (with_reducible repeat first|apply zN6|apply zD6|apply zA6); refine blk_far ?_ NB324_377.out _; (with_reducible repeat first|apply zN6|apply zD6|apply zA6); refine blk_far ?_ NB324_377.out _; (with_reducible repeat first|apply zN6|apply zD6|apply zA6); refine blk_far ?_ NB324_377.out _; (with_reducible repeat first|apply zN6|apply zD6|apply zA6); refine blk_far ?_ NB324_377.out _; (with_reducible repeat first|apply zN6|apply zD6|apply zA6); exact BK324.out⟩, ⟨by (with_reducible repeat first|apply zN6|apply zD6|apply zA6); refine blk_far ?_ NB334_377.out _; (with_reducible repeat first|apply zN6|apply zD6|apply zA6); refine blk_far ?_ NB334_377.out _; (with_reducible repeat first|apply zN6|apply zD6|apply zA6); refine blk_far ?_ NB334_377.out _; (with_reducible repeat first|apply zN6|apply zD6|apply zA6); refine blk_far ?_ NB334_377.out _; (with_reducible repeat first|apply zN6|apply zD6|apply zA6); refine blk_far ?_ NB334_377.out _; (with_reducible repeat first|apply zN6|apply zD6|apply zA6); refine blk_far ?_ NB334_377.out _; (with_reducible repeat first|apply zN6|apply zD6|apply zA6); exact BK334.out⟩, ⟨by (with_reducible repeat first|apply zN6|apply zD6|apply zA6); refine blk_far ?_ NB357_377.out _; (with_reducible repeat first|apply zN6|apply zD6|apply zA6); refine blk_far ?_ NB357_377.out _; (with_reducible repeat first|apply zN6|apply zD6|apply zA6); refine blk_far ?_ NB357_377.out _; (with_reducible repeat first|apply zN6|apply zD6|apply zA6); refine blk_far ?_ NB357_377.out _; (with_reducible repeat first|apply zN6|apply zD6|apply zA6); refine blk_far ?_ NB357_377.out _; (with_reducible repeat first|apply zN6|apply zD6|apply zA6); refine blk_far ?_ NB357_377.out _; (with_reducible repeat first|apply zN6|apply zD6|apply zA6); exact BK357.out⟩, ⟨by (with_reducible repeat first|apply zN6|apply zD6|apply zA6); refine blk_far ?_ NB376_377.out _; (with_reducible repeat first|apply zN6|apply zD6|apply zA6); refine blk_far ?_ NB376_377.out _; (with_reducible repeat first|apply zN6|apply zD6|apply zA6); refine blk_far ?_ NB376_377.out _; (with_reducible repeat first|apply zN6|apply zD6|apply zA6); refine blk_far ?_ NB376_377.out _; (with_reducible repeat first|apply zN6|apply zD6|apply zA6); refine blk_far ?_ NB376_377.out _; (with_reducible repeat first|apply zN6|apply zD6|apply zA6); refine blk_far ?_ NB376_377.out _; (with_reducible repeat first|apply zN6|apply zD6|apply zA6); exact BK376.out⟩, ⟨by (with_reducible repeat first|apply zN6|apply zD6|apply zA6); refine blk_put (cs := #[.int .i64 t315, .int .i64 t316, .slice Ao15 t317.length co15, .int .i64 t320, .int .i64 t321, .int .i64 0]) ?_ 5 _ rfl; (with_reducible repeat first|apply zN6|apply zD6|apply zA6); refine blk_put (cs := #[.int .i64 t315, .int .i64 t316, .slice Ao15 t317.length co15, .int .i64 t320, .int .i64 0, .int .i64 0]) ?_ 4 _ rfl; (with_reducible repeat first|apply zN6|apply zD6|apply zA6); refine blk_put (cs := #[.int .i64 t315, .int .i64 t316, .slice Ao15 t317.length co15, .int .i64 0, .int .i64 0, .int .i64 0]) ?_ 3 _ rfl; (with_reducible repeat first|apply zN6|apply zD6|apply zA6); refine blk_put (cs := #[.int .i64 t315, .int .i64 t316, .slice none 0 0, .int .i64 0, .int .i64 0, .int .i64 0]) ?_ 2 _ rfl; (with_reducible repeat first|apply zN6|apply zD6|apply zA6); refine blk_put (cs := #[.int .i64 t315, .int .i64 0, .slice none 0 0, .int .i64 0, .int .i64 0, .int .i64 0]) ?_ 1 _ rfl; (with_reducible repeat first|apply zN6|apply zD6|apply zA6); refine blk_put (cs := #[.int .i64 0, .int .i64 0, .slice none 0 0, .int .i64 0, .int .i64 0, .int .i64 0]) ?_ 0 _ rfl; (with_reducible repeat first|apply zN6|apply zD6|apply zA6); exact BK377.out⟩, ⟨by repeat (first | (with_reducible first | exact HB.out | apply below_alloc | apply pw_below_drewN | apply below_drew1 | refine below_set ?_ GE324.out | refine below_set ?_ GE334.out | refine below_set ?_ GE357.out | refine below_set ?_ GE376.out | refine below_set ?_ GE377.out) | exact HB.out)⟩⟩
               case rest =>
                clear HC49
                try clear c1
                try clear c2
                try clear p2
                try clear c3
                try clear p3
                try clear q3
                try clear hx3
                try clear qi3
                try clear c4
                try clear c5
                try clear c6
                try clear p6
                try clear c7
                try clear c8
                try clear c9
                try clear c10
                try clear c12
                try clear c16
                try clear c19
                try clear c22
                try clear c22b0
                try clear c24
                try clear c26
                try clear c26b0
                try clear c27
                try clear c27b0
                try clear c31
                try clear c31b0
                try clear c32
                try clear c32b0
                try clear c33
                try clear p33
                try clear q33
                try clear hx33
                try clear c34
                try clear p34
                try clear q34
                try clear hx34
                try clear qi34
                try clear c35
                try clear c35b0
                try clear c40
                try clear c40b0
                try clear c40b1
                try clear c40b2
                try clear c41
                try clear c42
                try clear c43
                try clear c43b0
                try clear c43b1
                try clear c44
                try clear c46
                try clear c47
                try clear c54
                try clear c55
                try clear p64
                try clear c65
                try clear c66
                try clear c67
                try clear c70
                try clear c73
                try clear c74
                try clear c75
                try clear c76
                try clear c78
                try clear c80
                try clear c81
                try clear c82
                try clear c83
                try clear c85
                try clear c86
                try clear c87
                try clear hcz14_0
                try clear hcz14_1
                try clear hcz14_2
                try clear hcz14_3
                try clear hcz14_4
                try clear hcz14_5
                try clear hcz20_0
                try clear hcz20_1
                try clear hcz20_2
                try clear hcz20_3
                try clear hcz20_4
                try clear hcz20_5
                try clear hcz56_0
                try clear hcz56_1
                try clear hcz56_2
                try clear hcz56_3
                try clear hcz56_4
                try clear hcz56_5
                try clear hcz68_0
                try clear hcz68_1
                try clear hcz68_2
                try clear hcz68_3
                try clear hcz68_4
                try clear hcz68_5
                try clear hcz71_0
                try clear hcz71_1
                try clear hcz71_2
                try clear hcz71_3
                try clear hcz71_4
                try clear hcz71_5
                try clear hcz77_0
                try clear hcz77_1
                try clear hcz77_2
                try clear hcz77_3
                try clear hcz77_4
                try clear hcz77_5
                try clear hcz84_0
                try clear hcz84_1
                try clear hcz84_2
                try clear hcz84_3
                try clear hcz84_4
                try clear hcz84_5
                try clear hcz88_0
                try clear hcz88_1
                try clear hcz88_2
                try clear hcz88_3
                try clear hcz88_4
                try clear hcz88_5
                try clear hfz14_0
                try clear hfz14_1
                try clear hfz14_2
                try clear hfz14_3
                try clear hfz14_4
                try clear hfz14_5
                try clear hfz20_0
                try clear hfz20_1
                try clear hfz20_2
                try clear hfz20_3
                try clear hfz20_4
                try clear hfz20_5
                try clear hfz56_0
                try clear hfz56_1
                try clear hfz56_2
                try clear hfz56_3
                try clear hfz56_4
                try clear hfz56_5
                try clear hfz68_0
                try clear hfz68_1
                try clear hfz68_2
                try clear hfz68_3
                try clear hfz68_4
                try clear hfz68_5
                try clear hfz71_0
                try clear hfz71_1
                try clear hfz71_2
                try clear hfz71_3
                try clear hfz71_4
                try clear hfz71_5
                try clear hfz77_0
                try clear hfz77_1
                try clear hfz77_2
                try clear hfz77_3
                try clear hfz77_4
                try clear hfz77_5
                try clear hfz84_0
                try clear hfz84_1
                try clear hfz84_2
                try clear hfz84_3
                try clear hfz84_4
                try clear hfz84_5
                try clear hfz88_0
                try clear hfz88_1
                try clear hfz88_2
                try clear hfz88_3
                try clear hfz88_4
                try clear hfz88_5
                try clear hx335_0
                try clear hx335_1
                try clear hx335_2
                try clear hx335_3
                try clear hx335_4
                try clear hx335_5
                try clear hx337_0
                try clear hx337_1
                try clear hx337_2
                try clear hx337_3
                try clear hx337_4
                try clear hx337_5
                try clear hx341_0
                try clear hx341_1
                try clear hx341_2
                try clear hx341_3
                try clear hx341_4
                try clear hx341_5
                try clear hx344_0
                try clear hx344_1
                try clear hx344_2
                try clear hx344_3
                try clear hx344_4
                try clear hx344_5
                try clear p2
                try clear p3
                try clear p33
                try clear p335
                try clear p337
                try clear p34
                try clear p341
                try clear p344
                try clear p6
                try clear q3
                try clear q33
                try clear q335
                try clear q337
                try clear q34
                try clear q341
                try clear q344
                obtain ⟨kq, x116_48, rfl, HA, HJ48, HO_325002, HO_335002, HO_358002, HO_377002, HO_378002, BK324, BK334, BK357, BK376, BK377, HB⟩ := hcut
                cases kq with
                | zero => exact absurd HA.out (by simp [ridgewaylaw09_RouteBest.j4])
                | succ kj48 =>
                 have H := HA.out
                 clear HA
                 simp only [ridgewaylaw09_RouteBest.j4] at H
                 by_cases c90 : x116_48 = true
                 ·subst c90
                  have H1 : (if t312 = true then (if t356 = true then ((route_Same.f t348 t349 t350 t353 t354 t355 t315 t316 t317 t320 t321 t322).bind fun t379 => (if t379 = true then (if t375 = true then ((route_Same.f t367 t368 t369 t372 t373 t374 t325 t326 t327 t330 t331 t332).bind fun t380 => (some t380)) else (none)) else (none))) else (none)) else (none)) = some r := by rw [if_pos rfl] at H; exact H
                  clear H
                  have H := H1
                  clear H1
                  by_cases c91 : t312 = true
                  ·subst c91
                   have H1 : (if t356 = true then ((route_Same.f t348 t349 t350 t353 t354 t355 t315 t316 t317 t320 t321 t322).bind fun t379 => (if t379 = true then (if t375 = true then ((route_Same.f t367 t368 t369 t372 t373 t374 t325 t326 t327 t330 t331 t332).bind fun t380 => (some t380)) else (none)) else (none))) else (none)) = some r := by rw [if_pos rfl] at H; exact H
                   clear H
                   have H := H1
                   clear H1
                   by_cases c92 : t356 = true
                   ·subst c92
                    have H1 : ((route_Same.f t348 t349 t350 t353 t354 t355 t315 t316 t317 t320 t321 t322).bind fun t379 => (if t379 = true then (if t375 = true then ((route_Same.f t367 t368 t369 t372 t373 t374 t325 t326 t327 t330 t331 t332).bind fun t380 => (some t380)) else (none)) else (none))) = some r := by rw [if_pos rfl] at H; exact H
                    clear H
                    have H := H1
                    clear H1
                    replace H := Option.bind_eq_some_iff.mp H
                    obtain ⟨t379, A930, H⟩ := H
                    replace H : (if t379 = true then (if t375 = true then ((route_Same.f t367 t368 t369 t372 t373 t374 t325 t326 t327 t330 t331 t332).bind fun t380 => (some t380)) else (none)) else (none)) = some r := H
                    have A93 := Aside0.mk A930
                    clear A930
                    by_cases c94 : t379 = true
                    ·subst c94
                     have H1 : (if t375 = true then ((route_Same.f t367 t368 t369 t372 t373 t374 t325 t326 t327 t330 t331 t332).bind fun t380 => (some t380)) else (none)) = some r := by rw [if_pos rfl] at H; exact H
                     clear H
                     have H := H1
                     clear H1
                     by_cases c95 : t375 = true
                     ·subst c95
                      have H1 : ((route_Same.f t367 t368 t369 t372 t373 t374 t325 t326 t327 t330 t331 t332).bind fun t380 => (some t380)) = some r := by rw [if_pos rfl] at H; exact H
                      clear H
                      have H := H1
                      clear H1
                      replace H := Option.bind_eq_some_iff.mp H
                      obtain ⟨t380, A960, H⟩ := H
                      replace H : (some t380) = some r := H
                      have A96 := Aside0.mk A960
                      clear A960
                      obtain rfl := Option.some.inj H
                      have hnb97 := NB334_324.out
                      have hnc97 := NB324_334.out
                      have hnb98 := NB334_357.out
                      have hnc98 := NB357_334.out
                      have hnb99 := NB334_376.out
                      have hnc99 := NB376_334.out
                      have hnb100 := NB334_377.out
                      have hnc100 := NB377_334.out
                      have hcz101_0 : wc.cell? ⟨gb334, 0, none⟩ = some (.int .i64 t325) := (blk_cell BK334.out 0).trans rfl
                      have hcz101_1 : wc.cell? ⟨gb334, 1, none⟩ = some (.int .i64 t326) := (blk_cell BK334.out 1).trans rfl
                      have hcz101_2 : wc.cell? ⟨gb334, 2, none⟩ = some (.slice Ao21 t327.length co21) := (blk_cell BK334.out 2).trans rfl
                      have hcz101_3 : wc.cell? ⟨gb334, 3, none⟩ = some (.int .i64 t330) := (blk_cell BK334.out 3).trans rfl
                      have hcz101_4 : wc.cell? ⟨gb334, 4, none⟩ = some (.int .i64 t331) := (blk_cell BK334.out 4).trans rfl
                      have hcz101_5 : wc.cell? ⟨gb334, 5, none⟩ = some (.int .i64 t332) := (blk_cell BK334.out 5).trans rfl
                      have hfz101_0 := blk_frozen BK334.out 0
                      have hfz101_1 := blk_frozen BK334.out 1
                      have hfz101_2 := blk_frozen BK334.out 2
                      have hfz101_3 := blk_frozen BK334.out 3
                      have hfz101_4 := blk_frozen BK334.out 4
                      have hfz101_5 := blk_frozen BK334.out 5
                      have hnb102 := NB377_324.out
                      have hnc102 := NB324_377.out
                      have hnb103 := NB377_357.out
                      have hnc103 := NB357_377.out
                      have hnb104 := NB377_376.out
                      have hnc104 := NB376_377.out
                      have hcz105_0 : wc.cell? ⟨gb377, 0, none⟩ = some (.int .i64 t315) := (blk_cell BK377.out 0).trans rfl
                      have hcz105_1 : wc.cell? ⟨gb377, 1, none⟩ = some (.int .i64 t316) := (blk_cell BK377.out 1).trans rfl
                      have hcz105_2 : wc.cell? ⟨gb377, 2, none⟩ = some (.slice Ao15 t317.length co15) := (blk_cell BK377.out 2).trans rfl
                      have hcz105_3 : wc.cell? ⟨gb377, 3, none⟩ = some (.int .i64 t320) := (blk_cell BK377.out 3).trans rfl
                      have hcz105_4 : wc.cell? ⟨gb377, 4, none⟩ = some (.int .i64 t321) := (blk_cell BK377.out 4).trans rfl
                      have hcz105_5 : wc.cell? ⟨gb377, 5, none⟩ = some (.int .i64 t322) := (blk_cell BK377.out 5).trans rfl
                      have hfz105_0 := blk_frozen BK377.out 0
                      have hfz105_1 := blk_frozen BK377.out 1
                      have hfz105_2 := blk_frozen BK377.out 2
                      have hfz105_3 := blk_frozen BK377.out 3
                      have hfz105_4 := blk_frozen BK377.out 4
                      have hfz105_5 := blk_frozen BK377.out 5
                      have hnb106 := NB357_324.out
                      have hnc106 := NB324_357.out
                      have hnb107 := NB357_376.out
                      have hnc107 := NB376_357.out
                      have hcz108_0 : wc.cell? ⟨gb357, 0, none⟩ = some (.int .i64 t348) := (blk_cell BK357.out 0).trans rfl
                      have hcz108_1 : wc.cell? ⟨gb357, 1, none⟩ = some (.int .i64 t349) := (blk_cell BK357.out 1).trans rfl
                      have hcz108_2 : wc.cell? ⟨gb357, 2, none⟩ = some (.slice Ao57 t350.length co57) := (blk_cell BK357.out 2).trans rfl
                      have hcz108_3 : wc.cell? ⟨gb357, 3, none⟩ = some (.int .i64 t353) := (blk_cell BK357.out 3).trans rfl
                      have hcz108_4 : wc.cell? ⟨gb357, 4, none⟩ = some (.int .i64 t354) := (blk_cell BK357.out 4).trans rfl
                      have hcz108_5 : wc.cell? ⟨gb357, 5, none⟩ = some (.int .i64 t355) := (blk_cell BK357.out 5).trans rfl
                      have hfz108_0 := blk_frozen BK357.out 0
                      have hfz108_1 := blk_frozen BK357.out 1
                      have hfz108_2 := blk_frozen BK357.out 2
                      have hfz108_3 := blk_frozen BK357.out 3
                      have hfz108_4 := blk_frozen BK357.out 4
                      have hfz108_5 := blk_frozen BK357.out 5
                      have hnb109 := NB324_376.out
                      have hnc109 := NB376_324.out
                      have hcz110_0 : wc.cell? ⟨gb324, 0, none⟩ = some (.int .i64 t315) := (blk_cell BK324.out 0).trans rfl
                      have hcz110_1 : wc.cell? ⟨gb324, 1, none⟩ = some (.int .i64 t316) := (blk_cell BK324.out 1).trans rfl
                      have hcz110_2 : wc.cell? ⟨gb324, 2, none⟩ = some (.slice Ao15 t317.length co15) := (blk_cell BK324.out 2).trans rfl
                      have hcz110_3 : wc.cell? ⟨gb324, 3, none⟩ = some (.int .i64 t320) := (blk_cell BK324.out 3).trans rfl
                      have hcz110_4 : wc.cell? ⟨gb324, 4, none⟩ = some (.int .i64 t321) := (blk_cell BK324.out 4).trans rfl
                      have hcz110_5 : wc.cell? ⟨gb324, 5, none⟩ = some (.int .i64 t322) := (blk_cell BK324.out 5).trans rfl
                      have hfz110_0 := blk_frozen BK324.out 0
                      have hfz110_1 := blk_frozen BK324.out 1
                      have hfz110_2 := blk_frozen BK324.out 2
                      have hfz110_3 := blk_frozen BK324.out 3
                      have hfz110_4 := blk_frozen BK324.out 4
                      have hfz110_5 := blk_frozen BK324.out 5
                      go_wp2_with (first | (go_at_call 12; (with_reducible refine (route_Same.calls t348 t349 _ _ t350 t353 t354 t355 t315 t316 _ _ t317 t320 t321 t322 true _ ?side1 ?side2 ?side3 ?side4 A93.out).mono ?_); (case side1 => refine (Kd.V_reads' (e := 3) (base := w.heap.size) (ok := fun k_ => (((P0_ k_ ∨ P1_ k_) ∨ w.heap.size ≤ k_) ∧ (k_ ≠ gb324 ∧ (k_ ≠ gb334 ∧ (k_ ≠ gb357 ∧ (k_ ≠ gb376 ∧ k_ ≠ gb377)))))) (n := t350.length) (c := co57) ?_).2.2; exact (by (with_reducible repeat first|apply vA6|apply vN6|apply vD6); exact (Kd.V_mono (Kd.V_far (p := ⟨gb377, 5, none⟩) (Kd.V_far (p := ⟨gb377, 4, none⟩) (Kd.V_far (p := ⟨gb377, 3, none⟩) (Kd.V_far (p := ⟨gb377, 2, none⟩) (Kd.V_far (p := ⟨gb377, 1, none⟩) (Kd.V_far (p := ⟨gb377, 0, none⟩) (Kd.V_mono HO_358002.out (fun k_ hk => (⟨hk, hk.2.2.2.2.2⟩ : _ ∧ k_ ≠ gb377))) (fun _ hk => hk.2) (.int .i64 t325)) (fun _ hk => hk.2) (.int .i64 t326)) (fun _ hk => hk.2) (.slice Ao21 t327.length co21)) (fun _ hk => hk.2) (.int .i64 t330)) (fun _ hk => hk.2) (.int .i64 t331)) (fun _ hk => hk.2) (.int .i64 t332)) (fun _ h_ => h_.1)))); (case side2 => exact (Kd.V_reads' HO_358002.out).2.1); (case side3 => refine (Kd.V_reads' (e := 3) (base := w.heap.size) (ok := fun k_ => (((P0_ k_ ∨ P1_ k_) ∨ w.heap.size ≤ k_) ∧ (k_ ≠ gb324 ∧ (k_ ≠ gb334 ∧ (k_ ≠ gb357 ∧ (k_ ≠ gb376 ∧ k_ ≠ gb377)))))) (n := t317.length) (c := co15) ?_).2.2; exact (by (with_reducible repeat first|apply vA6|apply vN6|apply vD6); exact (Kd.V_mono (Kd.V_far (p := ⟨gb377, 5, none⟩) (Kd.V_far (p := ⟨gb377, 4, none⟩) (Kd.V_far (p := ⟨gb377, 3, none⟩) (Kd.V_far (p := ⟨gb377, 2, none⟩) (Kd.V_far (p := ⟨gb377, 1, none⟩) (Kd.V_far (p := ⟨gb377, 0, none⟩) (Kd.V_mono HO_325002.out (fun k_ hk => (⟨hk, hk.2.2.2.2.2⟩ : _ ∧ k_ ≠ gb377))) (fun _ hk => hk.2) (.int .i64 t325)) (fun _ hk => hk.2) (.int .i64 t326)) (fun _ hk => hk.2) (.slice Ao21 t327.length co21)) (fun _ hk => hk.2) (.int .i64 t330)) (fun _ hk => hk.2) (.int .i64 t331)) (fun _ hk => hk.2) (.int .i64 t332)) (fun _ h_ => h_.1)))); (case side4 => exact (Kd.V_reads' HO_325002.out).2.1); rintro e w111 ⟨rfl, hb⟩; have n0_ := Aside0.mk (Kd.V_below (by (with_reducible repeat first|apply vA6|apply vN6|apply vD6); exact (Kd.V_mono (Kd.V_far (p := ⟨gb377, 5, none⟩) (Kd.V_far (p := ⟨gb377, 4, none⟩) (Kd.V_far (p := ⟨gb377, 3, none⟩) (Kd.V_far (p := ⟨gb377, 2, none⟩) (Kd.V_far (p := ⟨gb377, 1, none⟩) (Kd.V_far (p := ⟨gb377, 0, none⟩) (Kd.V_mono HO_325002.out (fun k_ hk => (⟨hk, hk.2.2.2.2.2⟩ : _ ∧ k_ ≠ gb377))) (fun _ hk => hk.2) (.int .i64 t325)) (fun _ hk => hk.2) (.int .i64 t326)) (fun _ hk => hk.2) (.slice Ao21 t327.length co21)) (fun _ hk => hk.2) (.int .i64 t330)) (fun _ hk => hk.2) (.int .i64 t331)) (fun _ hk => hk.2) (.int .i64 t332)) (fun _ h_ => h_.1))) hb); have n1_ := Aside0.mk (Kd.V_below (by (with_reducible repeat first|apply vA6|apply vN6|apply vD6); exact (Kd.V_mono (Kd.V_far (p := ⟨gb377, 5, none⟩) (Kd.V_far (p := ⟨gb377, 4, none⟩) (Kd.V_far (p := ⟨gb377, 3, none⟩) (Kd.V_far (p := ⟨gb377, 2, none⟩) (Kd.V_far (p := ⟨gb377, 1, none⟩) (Kd.V_far (p := ⟨gb377, 0, none⟩) (Kd.V_mono HO_335002.out (fun k_ hk => (⟨hk, hk.2.2.2.2.2⟩ : _ ∧ k_ ≠ gb377))) (fun _ hk => hk.2) (.int .i64 t325)) (fun _ hk => hk.2) (.int .i64 t326)) (fun _ hk => hk.2) (.slice Ao21 t327.length co21)) (fun _ hk => hk.2) (.int .i64 t330)) (fun _ hk => hk.2) (.int .i64 t331)) (fun _ hk => hk.2) (.int .i64 t332)) (fun _ h_ => h_.1))) hb); have n2_ := Aside0.mk (Kd.V_below (by (with_reducible repeat first|apply vA6|apply vN6|apply vD6); exact (Kd.V_mono (Kd.V_far (p := ⟨gb377, 5, none⟩) (Kd.V_far (p := ⟨gb377, 4, none⟩) (Kd.V_far (p := ⟨gb377, 3, none⟩) (Kd.V_far (p := ⟨gb377, 2, none⟩) (Kd.V_far (p := ⟨gb377, 1, none⟩) (Kd.V_far (p := ⟨gb377, 0, none⟩) (Kd.V_mono HO_358002.out (fun k_ hk => (⟨hk, hk.2.2.2.2.2⟩ : _ ∧ k_ ≠ gb377))) (fun _ hk => hk.2) (.int .i64 t325)) (fun _ hk => hk.2) (.int .i64 t326)) (fun _ hk => hk.2) (.slice Ao21 t327.length co21)) (fun _ hk => hk.2) (.int .i64 t330)) (fun _ hk => hk.2) (.int .i64 t331)) (fun _ hk => hk.2) (.int .i64 t332)) (fun _ h_ => h_.1))) hb); have n3_ := Aside0.mk (Kd.V_below (by (with_reducible repeat first|apply vA6|apply vN6|apply vD6); exact (Kd.V_mono (Kd.V_far (p := ⟨gb377, 5, none⟩) (Kd.V_far (p := ⟨gb377, 4, none⟩) (Kd.V_far (p := ⟨gb377, 3, none⟩) (Kd.V_far (p := ⟨gb377, 2, none⟩) (Kd.V_far (p := ⟨gb377, 1, none⟩) (Kd.V_far (p := ⟨gb377, 0, none⟩) (Kd.V_mono HO_377002.out (fun k_ hk => (⟨hk, hk.2.2.2.2.2⟩ : _ ∧ k_ ≠ gb377))) (fun _ hk => hk.2) (.int .i64 t325)) (fun _ hk => hk.2) (.int .i64 t326)) (fun _ hk => hk.2) (.slice Ao21 t327.length co21)) (fun _ hk => hk.2) (.int .i64 t330)) (fun _ hk => hk.2) (.int .i64 t331)) (fun _ hk => hk.2) (.int .i64 t332)) (fun _ h_ => h_.1))) hb); have n4_ := Aside0.mk (Kd.V_below (by (with_reducible repeat first|apply vA6|apply vN6|apply vD6); exact (Kd.V_mono (Kd.V_far (p := ⟨gb377, 5, none⟩) (Kd.V_far (p := ⟨gb377, 4, none⟩) (Kd.V_far (p := ⟨gb377, 3, none⟩) (Kd.V_far (p := ⟨gb377, 2, none⟩) (Kd.V_far (p := ⟨gb377, 1, none⟩) (Kd.V_far (p := ⟨gb377, 0, none⟩) (Kd.V_mono HO_378002.out (fun k_ hk => (⟨hk, hk.2.2.2.2.2⟩ : _ ∧ k_ ≠ gb377))) (fun _ hk => hk.2) (.int .i64 t325)) (fun _ hk => hk.2) (.int .i64 t326)) (fun _ hk => hk.2) (.slice Ao21 t327.length co21)) (fun _ hk => hk.2) (.int .i64 t330)) (fun _ hk => hk.2) (.int .i64 t331)) (fun _ hk => hk.2) (.int .i64 t332)) (fun _ h_ => h_.1))) hb); have n5_ := Aside0.mk (blk_below (g := gb324) (o := .cells #[.int .i64 t315, .int .i64 t316, .slice Ao15 t317.length co15, .int .i64 t320, .int .i64 t321, .int .i64 t322] 27 (0, 0)) (by (with_reducible repeat first|apply zN6|apply zD6|apply zA6); refine blk_far ?_ NB324_377.out _; (with_reducible repeat first|apply zN6|apply zD6|apply zA6); refine blk_far ?_ NB324_377.out _; (with_reducible repeat first|apply zN6|apply zD6|apply zA6); refine blk_far ?_ NB324_377.out _; (with_reducible repeat first|apply zN6|apply zD6|apply zA6); refine blk_far ?_ NB324_377.out _; (with_reducible repeat first|apply zN6|apply zD6|apply zA6); refine blk_far ?_ NB324_377.out _; (with_reducible repeat first|apply zN6|apply zD6|apply zA6); refine blk_far ?_ NB324_377.out _; (with_reducible repeat first|apply zN6|apply zD6|apply zA6); exact BK324.out) hb); have n6_ := Aside0.mk (blk_below (g := gb334) (o := .cells #[.int .i64 t325, .int .i64 t326, .slice Ao21 t327.length co21, .int .i64 t330, .int .i64 t331, .int .i64 t332] 27 (0, 0)) (by (with_reducible repeat first|apply zN6|apply zD6|apply zA6); refine blk_far ?_ NB334_377.out _; (with_reducible repeat first|apply zN6|apply zD6|apply zA6); refine blk_far ?_ NB334_377.out _; (with_reducible repeat first|apply zN6|apply zD6|apply zA6); refine blk_far ?_ NB334_377.out _; (with_reducible repeat first|apply zN6|apply zD6|apply zA6); refine blk_far ?_ NB334_377.out _; (with_reducible repeat first|apply zN6|apply zD6|apply zA6); refine blk_far ?_ NB334_377.out _; (with_reducible repeat first|apply zN6|apply zD6|apply zA6); refine blk_far ?_ NB334_377.out _; (with_reducible repeat first|apply zN6|apply zD6|apply zA6); exact BK334.out) hb); have n7_ := Aside0.mk (blk_below (g := gb357) (o := .cells #[.int .i64 t348, .int .i64 t349, .slice Ao57 t350.length co57, .int .i64 t353, .int .i64 t354, .int .i64 t355] 27 (0, 0)) (by (with_reducible repeat first|apply zN6|apply zD6|apply zA6); refine blk_far ?_ NB357_377.out _; (with_reducible repeat first|apply zN6|apply zD6|apply zA6); refine blk_far ?_ NB357_377.out _; (with_reducible repeat first|apply zN6|apply zD6|apply zA6); refine blk_far ?_ NB357_377.out _; (with_reducible repeat first|apply zN6|apply zD6|apply zA6); refine blk_far ?_ NB357_377.out _; (with_reducible repeat first|apply zN6|apply zD6|apply zA6); refine blk_far ?_ NB357_377.out _; (with_reducible repeat first|apply zN6|apply zD6|apply zA6); refine blk_far ?_ NB357_377.out _; (with_reducible repeat first|apply zN6|apply zD6|apply zA6); exact BK357.out) hb); have n8_ := Aside0.mk (blk_below (g := gb376) (o := .cells #[.int .i64 t367, .int .i64 t368, .slice Ao69 t369.length co69, .int .i64 t372, .int .i64 t373, .int .i64 t374] 27 (0, 0)) (by (with_reducible repeat first|apply zN6|apply zD6|apply zA6); refine blk_far ?_ NB376_377.out _; (with_reducible repeat first|apply zN6|apply zD6|apply zA6); refine blk_far ?_ NB376_377.out _; (with_reducible repeat first|apply zN6|apply zD6|apply zA6); refine blk_far ?_ NB376_377.out _; (with_reducible repeat first|apply zN6|apply zD6|apply zA6); refine blk_far ?_ NB376_377.out _; (with_reducible repeat first|apply zN6|apply zD6|apply zA6); refine blk_far ?_ NB376_377.out _; (with_reducible repeat first|apply zN6|apply zD6|apply zA6); refine blk_far ?_ NB376_377.out _; (with_reducible repeat first|apply zN6|apply zD6|apply zA6); exact BK376.out) hb); have n9_ := Aside0.mk (blk_below (g := gb377) (o := .cells #[.int .i64 t325, .int .i64 t326, .slice Ao21 t327.length co21, .int .i64 t330, .int .i64 t331, .int .i64 t332] 27 (0, 0)) (by (with_reducible repeat first|apply zN6|apply zD6|apply zA6); refine blk_put (cs := #[.int .i64 t325, .int .i64 t326, .slice Ao21 t327.length co21, .int .i64 t330, .int .i64 t331, .int .i64 t322]) ?_ 5 _ rfl; (with_reducible repeat first|apply zN6|apply zD6|apply zA6); refine blk_put (cs := #[.int .i64 t325, .int .i64 t326, .slice Ao21 t327.length co21, .int .i64 t330, .int .i64 t321, .int .i64 t322]) ?_ 4 _ rfl; (with_reducible repeat first|apply zN6|apply zD6|apply zA6); refine blk_put (cs := #[.int .i64 t325, .int .i64 t326, .slice Ao21 t327.length co21, .int .i64 t320, .int .i64 t321, .int .i64 t322]) ?_ 3 _ rfl; (with_reducible repeat first|apply zN6|apply zD6|apply zA6); refine blk_put (cs := #[.int .i64 t325, .int .i64 t326, .slice Ao15 t317.length co15, .int .i64 t320, .int .i64 t321, .int .i64 t322]) ?_ 2 _ rfl; (with_reducible repeat first|apply zN6|apply zD6|apply zA6); refine blk_put (cs := #[.int .i64 t325, .int .i64 t316, .slice Ao15 t317.length co15, .int .i64 t320, .int .i64 t321, .int .i64 t322]) ?_ 1 _ rfl; (with_reducible repeat first|apply zN6|apply zD6|apply zA6); refine blk_put (cs := #[.int .i64 t315, .int .i64 t316, .slice Ao15 t317.length co15, .int .i64 t320, .int .i64 t321, .int .i64 t322]) ?_ 0 _ rfl; (with_reducible repeat first|apply zN6|apply zD6|apply zA6); exact BK377.out) hb); have n10_ := Aside0.mk (below_step (by repeat (first | (with_reducible first | exact HB.out | apply below_alloc | apply pw_below_drewN | apply below_drew1 | refine below_set ?_ GE324.out | refine below_set ?_ GE334.out | refine below_set ?_ GE357.out | refine below_set ?_ GE376.out | refine below_set ?_ GE377.out) | exact HB.out)) hb); clear HO_325002; clear HO_335002; clear HO_358002; clear HO_377002; clear HO_378002; clear BK324; clear BK334; clear BK357; clear BK376; clear BK377; clear HB; have HO_325002 := n0_; have HO_335002 := n1_; have HO_358002 := n2_; have HO_377002 := n3_; have HO_378002 := n4_; have BK324 := n5_; have BK334 := n6_; have BK357 := n7_; have BK376 := n8_; have BK377 := n9_; have HB := n10_; clear n0_ n1_ n2_ n3_ n4_ n5_ n6_ n7_ n8_ n9_ n10_; (try clear hb); (try clear hb2); (try clear hk); (try clear hi); have hcz112_0 : w111.cell? ⟨gb376, 0, none⟩ = some (.int .i64 t367) := (blk_cell BK376.out 0).trans rfl; have hcz112_1 : w111.cell? ⟨gb376, 1, none⟩ = some (.int .i64 t368) := (blk_cell BK376.out 1).trans rfl; have hcz112_2 : w111.cell? ⟨gb376, 2, none⟩ = some (.slice Ao69 t369.length co69) := (blk_cell BK376.out 2).trans rfl; have hcz112_3 : w111.cell? ⟨gb376, 3, none⟩ = some (.int .i64 t372) := (blk_cell BK376.out 3).trans rfl; have hcz112_4 : w111.cell? ⟨gb376, 4, none⟩ = some (.int .i64 t373) := (blk_cell BK376.out 4).trans rfl; have hcz112_5 : w111.cell? ⟨gb376, 5, none⟩ = some (.int .i64 t374) := (blk_cell BK376.out 5).trans rfl; have hfz112_0 := blk_frozen BK376.out 0; have hfz112_1 := blk_frozen BK376.out 1; have hfz112_2 := blk_frozen BK376.out 2; have hfz112_3 := blk_frozen BK376.out 3; have hfz112_4 := blk_frozen BK376.out 4; have hfz112_5 := blk_frozen BK376.out 5; have hcz113_0 : w111.cell? ⟨gb377, 0, none⟩ = some (.int .i64 t325) := (blk_cell BK377.out 0).trans rfl; have hcz113_1 : w111.cell? ⟨gb377, 1, none⟩ = some (.int .i64 t326) := (blk_cell BK377.out 1).trans rfl; have hcz113_2 : w111.cell? ⟨gb377, 2, none⟩ = some (.slice Ao21 t327.length co21) := (blk_cell BK377.out 2).trans rfl; have hcz113_3 : w111.cell? ⟨gb377, 3, none⟩ = some (.int .i64 t330) := (blk_cell BK377.out 3).trans rfl; have hcz113_4 : w111.cell? ⟨gb377, 4, none⟩ = some (.int .i64 t331) := (blk_cell BK377.out 4).trans rfl; have hcz113_5 : w111.cell? ⟨gb377, 5, none⟩ = some (.int .i64 t332) := (blk_cell BK377.out 5).trans rfl; have hfz113_0 := blk_frozen BK377.out 0; have hfz113_1 := blk_frozen BK377.out 1; have hfz113_2 := blk_frozen BK377.out 2; have hfz113_3 := blk_frozen BK377.out 3; have hfz113_4 := blk_frozen BK377.out 4; have hfz113_5 := blk_frozen BK377.out 5) | (go_at_call 12; (with_reducible refine (route_Same.calls t367 t368 _ _ t369 t372 t373 t374 t325 t326 _ _ t327 t330 t331 t332 t380 _ ?side1 ?side2 ?side3 ?side4 A96.out).mono ?_); (case side1 => repeat (first | exact (Kd.V_reads' HO_377002.out).2.2 | (with_reducible refine Kd.C_alloc ?_ _) | (with_reducible refine Kd.C_drewN ?_ _) | (with_reducible refine Kd.C_drew ?_))); (case side2 => exact (Kd.V_reads' HO_377002.out).2.1); (case side3 => repeat (first | exact (Kd.V_reads' HO_335002.out).2.2 | (with_reducible refine Kd.C_alloc ?_ _) | (with_reducible refine Kd.C_drewN ?_ _) | (with_reducible refine Kd.C_drew ?_))); (case side4 => exact (Kd.V_reads' HO_335002.out).2.1); rintro e w114 ⟨rfl, hb⟩; have n0_ := Aside0.mk (Kd.V_below (by (with_reducible repeat first|apply vA6|apply vN6|apply vD6); exact HO_325002.out) hb); have n1_ := Aside0.mk (Kd.V_below (by (with_reducible repeat first|apply vA6|apply vN6|apply vD6); exact HO_335002.out) hb); have n2_ := Aside0.mk (Kd.V_below (by (with_reducible repeat first|apply vA6|apply vN6|apply vD6); exact HO_358002.out) hb); have n3_ := Aside0.mk (Kd.V_below (by (with_reducible repeat first|apply vA6|apply vN6|apply vD6); exact HO_377002.out) hb); have n4_ := Aside0.mk (Kd.V_below (by (with_reducible repeat first|apply vA6|apply vN6|apply vD6); exact HO_378002.out) hb); have n5_ := Aside0.mk (blk_below (g := gb324) (o := .cells #[.int .i64 t315, .int .i64 t316, .slice Ao15 t317.length co15, .int .i64 t320, .int .i64 t321, .int .i64 t322] 27 (0, 0)) (by (with_reducible repeat first|apply zN6|apply zD6|apply zA6); exact BK324.out) hb); have n6_ := Aside0.mk (blk_below (g := gb334) (o := .cells #[.int .i64 t325, .int .i64 t326, .slice Ao21 t327.length co21, .int .i64 t330, .int .i64 t331, .int .i64 t332] 27 (0, 0)) (by (with_reducible repeat first|apply zN6|apply zD6|apply zA6); exact BK334.out) hb); have n7_ := Aside0.mk (blk_below (g := gb357) (o := .cells #[.int .i64 t348, .int .i64 t349, .slice Ao57 t350.length co57, .int .i64 t353, .int .i64 t354, .int .i64 t355] 27 (0, 0)) (by (with_reducible repeat first|apply zN6|apply zD6|apply zA6); exact BK357.out) hb); have n8_ := Aside0.mk (blk_below (g := gb376) (o := .cells #[.int .i64 t367, .int .i64 t368, .slice Ao69 t369.length co69, .int .i64 t372, .int .i64 t373, .int .i64 t374] 27 (0, 0)) (by (with_reducible repeat first|apply zN6|apply zD6|apply zA6); exact BK376.out) hb); have n9_ := Aside0.mk (blk_below (g := gb377) (o := .cells #[.int .i64 t325, .int .i64 t326, .slice Ao21 t327.length co21, .int .i64 t330, .int .i64 t331, .int .i64 t332] 27 (0, 0)) (by (with_reducible repeat first|apply zN6|apply zD6|apply zA6); exact BK377.out) hb); have n10_ := Aside0.mk (below_step (by repeat (first | (with_reducible first | exact HB.out | apply below_alloc | apply pw_below_drewN | apply below_drew1 | refine below_set ?_ GE324.out | refine below_set ?_ GE334.out | refine below_set ?_ GE357.out | refine below_set ?_ GE376.out | refine below_set ?_ GE377.out) | exact HB.out)) hb); clear HO_325002; clear HO_335002; clear HO_358002; clear HO_377002; clear HO_378002; clear BK324; clear BK334; clear BK357; clear BK376; clear BK377; clear HB; have HO_325002 := n0_; have HO_335002 := n1_; have HO_358002 := n2_; have HO_377002 := n3_; have HO_378002 := n4_; have BK324 := n5_; have BK334 := n6_; have BK357 := n7_; have BK376 := n8_; have BK377 := n9_; have HB := n10_; clear n0_ n1_ n2_ n3_ n4_ n5_ n6_ n7_ n8_ n9_ n10_; (try clear hb); (try clear hb2); (try clear hk); (try clear hi)))
                      go_ret
                      exact ⟨by first | rfl | (simp [errW_none, errW_some] <;> rfl) | (simp [*, errW_none, errW_some] <;> rfl), by repeat (first | (with_reducible first | exact HB.out | apply below_alloc | apply pw_below_drewN | apply below_drew1 | refine below_set ?_ GE324.out | refine below_set ?_ GE334.out | refine below_set ?_ GE357.out | refine below_set ?_ GE376.out | refine below_set ?_ GE377.out) | exact HB.out)⟩
                     ·replace c95 := Bool.eq_false_iff.mpr c95
                      subst c95
                      have H1 : (none) = some r := by rw [if_neg (show ¬ (false = true) by decide)] at H; exact H
                      clear H
                      have H := H1
                      clear H1
                      exact absurd H (by simp)
                    ·replace c94 := Bool.eq_false_iff.mpr c94
                     subst c94
                     have H1 : (none) = some r := by rw [if_neg (show ¬ (false = true) by decide)] at H; exact H
                     clear H
                     have H := H1
                     clear H1
                     exact absurd H (by simp)
                   ·replace c92 := Bool.eq_false_iff.mpr c92
                    subst c92
                    have H1 : (none) = some r := by rw [if_neg (show ¬ (false = true) by decide)] at H; exact H
                    clear H
                    have H := H1
                    clear H1
                    exact absurd H (by simp)
                  ·replace c91 := Bool.eq_false_iff.mpr c91
                   subst c91
                   have H1 : (none) = some r := by rw [if_neg (show ¬ (false = true) by decide)] at H; exact H
                   clear H
                   have H := H1
                   clear H1
                   exact absurd H (by simp)
                 ·replace c90 := Bool.eq_false_iff.mpr c90
                  subst c90
                  have H1 : (if t312 = true then (if t356 = true then ((route_Same.f t348 t349 t350 t353 t354 t355 t315 t316 t317 t320 t321 t322).bind fun t381 => (if t381 = true then (if t375 = true then ((route_Same.f t367 t368 t369 t372 t373 t374 t315 t316 t317 t320 t321 t322).bind fun t382 => (some t382)) else (none)) else (none))) else (none)) else (none)) = some r := by rw [if_neg (show ¬ (false = true) by decide)] at H; exact H
                  clear H
                  have H := H1
                  clear H1
                  by_cases c115 : t312 = true
                  ·subst c115
                   have H1 : (if t356 = true then ((route_Same.f t348 t349 t350 t353 t354 t355 t315 t316 t317 t320 t321 t322).bind fun t381 => (if t381 = true then (if t375 = true then ((route_Same.f t367 t368 t369 t372 t373 t374 t315 t316 t317 t320 t321 t322).bind fun t382 => (some t382)) else (none)) else (none))) else (none)) = some r := by rw [if_pos rfl] at H; exact H
                   clear H
                   have H := H1
                   clear H1
                   by_cases c116 : t356 = true
                   ·subst c116
                    have H1 : ((route_Same.f t348 t349 t350 t353 t354 t355 t315 t316 t317 t320 t321 t322).bind fun t381 => (if t381 = true then (if t375 = true then ((route_Same.f t367 t368 t369 t372 t373 t374 t315 t316 t317 t320 t321 t322).bind fun t382 => (some t382)) else (none)) else (none))) = some r := by rw [if_pos rfl] at H; exact H
                    clear H
                    have H := H1
                    clear H1
                    replace H := Option.bind_eq_some_iff.mp H
                    obtain ⟨t381, A1170, H⟩ := H
                    replace H : (if t381 = true then (if t375 = true then ((route_Same.f t367 t368 t369 t372 t373 t374 t315 t316 t317 t320 t321 t322).bind fun t382 => (some t382)) else (none)) else (none)) = some r := H
                    have A117 := Aside0.mk A1170
                    clear A1170
                    by_cases c118 : t381 = true
                    ·subst c118
                     have H1 : (if t375 = true then ((route_Same.f t367 t368 t369 t372 t373 t374 t315 t316 t317 t320 t321 t322).bind fun t382 => (some t382)) else (none)) = some r := by rw [if_pos rfl] at H; exact H
                     clear H
                     have H := H1
                     clear H1
                     by_cases c119 : t375 = true
                     ·subst c119
                      have H1 : ((route_Same.f t367 t368 t369 t372 t373 t374 t315 t316 t317 t320 t321 t322).bind fun t382 => (some t382)) = some r := by rw [if_pos rfl] at H; exact H
                      clear H
                      have H := H1
                      clear H1
                      replace H := Option.bind_eq_some_iff.mp H
                      obtain ⟨t382, A1200, H⟩ := H
                      replace H : (some t382) = some r := H
                      have A120 := Aside0.mk A1200
                      clear A1200
                      obtain rfl := Option.some.inj H
                      have hnb121 := NB357_324.out
                      have hnc121 := NB324_357.out
                      have hnb122 := NB357_334.out
                      have hnc122 := NB334_357.out
                      have hnb123 := NB357_376.out
                      have hnc123 := NB376_357.out
                      have hnb124 := NB357_377.out
                      have hnc124 := NB377_357.out
                      have hcz125_0 : wc.cell? ⟨gb357, 0, none⟩ = some (.int .i64 t348) := (blk_cell BK357.out 0).trans rfl
                      have hcz125_1 : wc.cell? ⟨gb357, 1, none⟩ = some (.int .i64 t349) := (blk_cell BK357.out 1).trans rfl
                      have hcz125_2 : wc.cell? ⟨gb357, 2, none⟩ = some (.slice Ao57 t350.length co57) := (blk_cell BK357.out 2).trans rfl
                      have hcz125_3 : wc.cell? ⟨gb357, 3, none⟩ = some (.int .i64 t353) := (blk_cell BK357.out 3).trans rfl
                      have hcz125_4 : wc.cell? ⟨gb357, 4, none⟩ = some (.int .i64 t354) := (blk_cell BK357.out 4).trans rfl
                      have hcz125_5 : wc.cell? ⟨gb357, 5, none⟩ = some (.int .i64 t355) := (blk_cell BK357.out 5).trans rfl
                      have hfz125_0 := blk_frozen BK357.out 0
                      have hfz125_1 := blk_frozen BK357.out 1
                      have hfz125_2 := blk_frozen BK357.out 2
                      have hfz125_3 := blk_frozen BK357.out 3
                      have hfz125_4 := blk_frozen BK357.out 4
                      have hfz125_5 := blk_frozen BK357.out 5
                      have hnb126 := NB324_334.out
                      have hnc126 := NB334_324.out
                      have hnb127 := NB324_376.out
                      have hnc127 := NB376_324.out
                      have hnb128 := NB324_377.out
                      have hnc128 := NB377_324.out
                      have hcz129_0 : wc.cell? ⟨gb324, 0, none⟩ = some (.int .i64 t315) := (blk_cell BK324.out 0).trans rfl
                      have hcz129_1 : wc.cell? ⟨gb324, 1, none⟩ = some (.int .i64 t316) := (blk_cell BK324.out 1).trans rfl
                      have hcz129_2 : wc.cell? ⟨gb324, 2, none⟩ = some (.slice Ao15 t317.length co15) := (blk_cell BK324.out 2).trans rfl
                      have hcz129_3 : wc.cell? ⟨gb324, 3, none⟩ = some (.int .i64 t320) := (blk_cell BK324.out 3).trans rfl
                      have hcz129_4 : wc.cell? ⟨gb324, 4, none⟩ = some (.int .i64 t321) := (blk_cell BK324.out 4).trans rfl
                      have hcz129_5 : wc.cell? ⟨gb324, 5, none⟩ = some (.int .i64 t322) := (blk_cell BK324.out 5).trans rfl
                      have hfz129_0 := blk_frozen BK324.out 0
                      have hfz129_1 := blk_frozen BK324.out 1
                      have hfz129_2 := blk_frozen BK324.out 2
                      have hfz129_3 := blk_frozen BK324.out 3
                      have hfz129_4 := blk_frozen BK324.out 4
                      have hfz129_5 := blk_frozen BK324.out 5
                      go_wp2_with (first | (go_at_call 12; (with_reducible refine (route_Same.calls t348 t349 _ _ t350 t353 t354 t355 t315 t316 _ _ t317 t320 t321 t322 true _ ?side1 ?side2 ?side3 ?side4 A117.out).mono ?_); (case side1 => repeat (first | exact (Kd.V_reads' HO_358002.out).2.2 | (with_reducible refine Kd.C_alloc ?_ _) | (with_reducible refine Kd.C_drewN ?_ _) | (with_reducible refine Kd.C_drew ?_))); (case side2 => exact (Kd.V_reads' HO_358002.out).2.1); (case side3 => repeat (first | exact (Kd.V_reads' HO_325002.out).2.2 | (with_reducible refine Kd.C_alloc ?_ _) | (with_reducible refine Kd.C_drewN ?_ _) | (with_reducible refine Kd.C_drew ?_))); (case side4 => exact (Kd.V_reads' HO_325002.out).2.1); rintro e w130 ⟨rfl, hb⟩; have n0_ := Aside0.mk (Kd.V_below (by (with_reducible repeat first|apply vA6|apply vN6|apply vD6); exact HO_325002.out) hb); have n1_ := Aside0.mk (Kd.V_below (by (with_reducible repeat first|apply vA6|apply vN6|apply vD6); exact HO_335002.out) hb); have n2_ := Aside0.mk (Kd.V_below (by (with_reducible repeat first|apply vA6|apply vN6|apply vD6); exact HO_358002.out) hb); have n3_ := Aside0.mk (Kd.V_below (by (with_reducible repeat first|apply vA6|apply vN6|apply vD6); exact HO_377002.out) hb); have n4_ := Aside0.mk (Kd.V_below (by (with_reducible repeat first|apply vA6|apply vN6|apply vD6); exact HO_378002.out) hb); have n5_ := Aside0.mk (blk_below (g := gb324) (o := .cells #[.int .i64 t315, .int .i64 t316, .slice Ao15 t317.length co15, .int .i64 t320, .int .i64 t321, .int .i64 t322] 27 (0, 0)) (by (with_reducible repeat first|apply zN6|apply zD6|apply zA6); exact BK324.out) hb); have n6_ := Aside0.mk (blk_below (g := gb334) (o := .cells #[.int .i64 t325, .int .i64 t326, .slice Ao21 t327.length co21, .int .i64 t330, .int .i64 t331, .int .i64 t332] 27 (0, 0)) (by (with_reducible repeat first|apply zN6|apply zD6|apply zA6); exact BK334.out) hb); have n7_ := Aside0.mk (blk_below (g := gb357) (o := .cells #[.int .i64 t348, .int .i64 t349, .slice Ao57 t350.length co57, .int .i64 t353, .int .i64 t354, .int .i64 t355] 27 (0, 0)) (by (with_reducible repeat first|apply zN6|apply zD6|apply zA6); exact BK357.out) hb); have n8_ := Aside0.mk (blk_below (g := gb376) (o := .cells #[.int .i64 t367, .int .i64 t368, .slice Ao69 t369.length co69, .int .i64 t372, .int .i64 t373, .int .i64 t374] 27 (0, 0)) (by (with_reducible repeat first|apply zN6|apply zD6|apply zA6); exact BK376.out) hb); have n9_ := Aside0.mk (blk_below (g := gb377) (o := .cells #[.int .i64 t315, .int .i64 t316, .slice Ao15 t317.length co15, .int .i64 t320, .int .i64 t321, .int .i64 t322] 27 (0, 0)) (by (with_reducible repeat first|apply zN6|apply zD6|apply zA6); exact BK377.out) hb); have n10_ := Aside0.mk (below_step (by repeat (first | (with_reducible first | exact HB.out | apply below_alloc | apply pw_below_drewN | apply below_drew1 | refine below_set ?_ GE324.out | refine below_set ?_ GE334.out | refine below_set ?_ GE357.out | refine below_set ?_ GE376.out | refine below_set ?_ GE377.out) | exact HB.out)) hb); clear HO_325002; clear HO_335002; clear HO_358002; clear HO_377002; clear HO_378002; clear BK324; clear BK334; clear BK357; clear BK376; clear BK377; clear HB; have HO_325002 := n0_; have HO_335002 := n1_; have HO_358002 := n2_; have HO_377002 := n3_; have HO_378002 := n4_; have BK324 := n5_; have BK334 := n6_; have BK357 := n7_; have BK376 := n8_; have BK377 := n9_; have HB := n10_; clear n0_ n1_ n2_ n3_ n4_ n5_ n6_ n7_ n8_ n9_ n10_; (try clear hb); (try clear hb2); (try clear hk); (try clear hi); have hnb131 := NB376_334.out; have hnc131 := NB334_376.out; have hnb132 := NB376_377.out; have hnc132 := NB377_376.out; have hcz133_0 : w130.cell? ⟨gb376, 0, none⟩ = some (.int .i64 t367) := (blk_cell BK376.out 0).trans rfl; have hcz133_1 : w130.cell? ⟨gb376, 1, none⟩ = some (.int .i64 t368) := (blk_cell BK376.out 1).trans rfl; have hcz133_2 : w130.cell? ⟨gb376, 2, none⟩ = some (.slice Ao69 t369.length co69) := (blk_cell BK376.out 2).trans rfl; have hcz133_3 : w130.cell? ⟨gb376, 3, none⟩ = some (.int .i64 t372) := (blk_cell BK376.out 3).trans rfl; have hcz133_4 : w130.cell? ⟨gb376, 4, none⟩ = some (.int .i64 t373) := (blk_cell BK376.out 4).trans rfl; have hcz133_5 : w130.cell? ⟨gb376, 5, none⟩ = some (.int .i64 t374) := (blk_cell BK376.out 5).trans rfl; have hfz133_0 := blk_frozen BK376.out 0; have hfz133_1 := blk_frozen BK376.out 1; have hfz133_2 := blk_frozen BK376.out 2; have hfz133_3 := blk_frozen BK376.out 3; have hfz133_4 := blk_frozen BK376.out 4; have hfz133_5 := blk_frozen BK376.out 5; have hnb134 := NB377_334.out; have hnc134 := NB334_377.out; have hcz135_0 : w130.cell? ⟨gb377, 0, none⟩ = some (.int .i64 t315) := (blk_cell BK377.out 0).trans rfl; have hcz135_1 : w130.cell? ⟨gb377, 1, none⟩ = some (.int .i64 t316) := (blk_cell BK377.out 1).trans rfl; have hcz135_2 : w130.cell? ⟨gb377, 2, none⟩ = some (.slice Ao15 t317.length co15) := (blk_cell BK377.out 2).trans rfl; have hcz135_3 : w130.cell? ⟨gb377, 3, none⟩ = some (.int .i64 t320) := (blk_cell BK377.out 3).trans rfl; have hcz135_4 : w130.cell? ⟨gb377, 4, none⟩ = some (.int .i64 t321) := (blk_cell BK377.out 4).trans rfl; have hcz135_5 : w130.cell? ⟨gb377, 5, none⟩ = some (.int .i64 t322) := (blk_cell BK377.out 5).trans rfl; have hfz135_0 := blk_frozen BK377.out 0; have hfz135_1 := blk_frozen BK377.out 1; have hfz135_2 := blk_frozen BK377.out 2; have hfz135_3 := blk_frozen BK377.out 3; have hfz135_4 := blk_frozen BK377.out 4; have hfz135_5 := blk_frozen BK377.out 5) | (go_at_call 12; (with_reducible refine (route_Same.calls t367 t368 _ _ t369 t372 t373 t374 t315 t316 _ _ t317 t320 t321 t322 t382 _ ?side1 ?side2 ?side3 ?side4 A120.out).mono ?_); (case side1 => repeat (first | exact (Kd.V_reads' HO_377002.out).2.2 | (with_reducible refine Kd.C_alloc ?_ _) | (with_reducible refine Kd.C_drewN ?_ _) | (with_reducible refine Kd.C_drew ?_))); (case side2 => exact (Kd.V_reads' HO_377002.out).2.1); (case side3 => repeat (first | exact (Kd.V_reads' HO_378002.out).2.2 | (with_reducible refine Kd.C_alloc ?_ _) | (with_reducible refine Kd.C_drewN ?_ _) | (with_reducible refine Kd.C_drew ?_))); (case side4 => exact (Kd.V_reads' HO_378002.out).2.1); rintro e w136 ⟨rfl, hb⟩; have n0_ := Aside0.mk (Kd.V_below (by (with_reducible repeat first|apply vA6|apply vN6|apply vD6); exact HO_325002.out) hb); have n1_ := Aside0.mk (Kd.V_below (by (with_reducible repeat first|apply vA6|apply vN6|apply vD6); exact HO_335002.out) hb); have n2_ := Aside0.mk (Kd.V_below (by (with_reducible repeat first|apply vA6|apply vN6|apply vD6); exact HO_358002.out) hb); have n3_ := Aside0.mk (Kd.V_below (by (with_reducible repeat first|apply vA6|apply vN6|apply vD6); exact HO_377002.out) hb); have n4_ := Aside0.mk (Kd.V_below (by (with_reducible repeat first|apply vA6|apply vN6|apply vD6); exact HO_378002.out) hb); have n5_ := Aside0.mk (blk_below (g := gb324) (o := .cells #[.int .i64 t315, .int .i64 t316, .slice Ao15 t317.length co15, .int .i64 t320, .int .i64 t321, .int .i64 t322] 27 (0, 0)) (by (with_reducible repeat first|apply zN6|apply zD6|apply zA6); exact BK324.out) hb); have n6_ := Aside0.mk (blk_below (g := gb334) (o := .cells #[.int .i64 t325, .int .i64 t326, .slice Ao21 t327.length co21, .int .i64 t330, .int .i64 t331, .int .i64 t332] 27 (0, 0)) (by (with_reducible repeat first|apply zN6|apply zD6|apply zA6); exact BK334.out) hb); have n7_ := Aside0.mk (blk_below (g := gb357) (o := .cells #[.int .i64 t348, .int .i64 t349, .slice Ao57 t350.length co57, .int .i64 t353, .int .i64 t354, .int .i64 t355] 27 (0, 0)) (by (with_reducible repeat first|apply zN6|apply zD6|apply zA6); exact BK357.out) hb); have n8_ := Aside0.mk (blk_below (g := gb376) (o := .cells #[.int .i64 t367, .int .i64 t368, .slice Ao69 t369.length co69, .int .i64 t372, .int .i64 t373, .int .i64 t374] 27 (0, 0)) (by (with_reducible repeat first|apply zN6|apply zD6|apply zA6); exact BK376.out) hb); have n9_ := Aside0.mk (blk_below (g := gb377) (o := .cells #[.int .i64 t315, .int .i64 t316, .slice Ao15 t317.length co15, .int .i64 t320, .int .i64 t321, .int .i64 t322] 27 (0, 0)) (by (with_reducible repeat first|apply zN6|apply zD6|apply zA6); exact BK377.out) hb); have n10_ := Aside0.mk (below_step (by repeat (first | (with_reducible first | exact HB.out | apply below_alloc | apply pw_below_drewN | apply below_drew1 | refine below_set ?_ GE324.out | refine below_set ?_ GE334.out | refine below_set ?_ GE357.out | refine below_set ?_ GE376.out | refine below_set ?_ GE377.out) | exact HB.out)) hb); clear HO_325002; clear HO_335002; clear HO_358002; clear HO_377002; clear HO_378002; clear BK324; clear BK334; clear BK357; clear BK376; clear BK377; clear HB; have HO_325002 := n0_; have HO_335002 := n1_; have HO_358002 := n2_; have HO_377002 := n3_; have HO_378002 := n4_; have BK324 := n5_; have BK334 := n6_; have BK357 := n7_; have BK376 := n8_; have BK377 := n9_; have HB := n10_; clear n0_ n1_ n2_ n3_ n4_ n5_ n6_ n7_ n8_ n9_ n10_; (try clear hb); (try clear hb2); (try clear hk); (try clear hi)))
                      go_ret
                      exact ⟨by first | rfl | (simp [errW_none, errW_some] <;> rfl) | (simp [*, errW_none, errW_some] <;> rfl), by repeat (first | (with_reducible first | exact HB.out | apply below_alloc | apply pw_below_drewN | apply below_drew1 | refine below_set ?_ GE324.out | refine below_set ?_ GE334.out | refine below_set ?_ GE357.out | refine below_set ?_ GE376.out | refine below_set ?_ GE377.out) | exact HB.out)⟩
                     ·replace c119 := Bool.eq_false_iff.mpr c119
                      subst c119
                      have H1 : (none) = some r := by rw [if_neg (show ¬ (false = true) by decide)] at H; exact H
                      clear H
                      have H := H1
                      clear H1
                      exact absurd H (by simp)
                    ·replace c118 := Bool.eq_false_iff.mpr c118
                     subst c118
                     have H1 : (none) = some r := by rw [if_neg (show ¬ (false = true) by decide)] at H; exact H
                     clear H
                     have H := H1
                     clear H1
                     exact absurd H (by simp)
                   ·replace c116 := Bool.eq_false_iff.mpr c116
                    subst c116
                    have H1 : (none) = some r := by rw [if_neg (show ¬ (false = true) by decide)] at H; exact H
                    clear H
                    have H := H1
                    clear H1
                    exact absurd H (by simp)
                  ·replace c115 := Bool.eq_false_iff.mpr c115
                   subst c115
                   have H1 : (none) = some r := by rw [if_neg (show ¬ (false = true) by decide)] at H; exact H
                   clear H
                   have H := H1
                   clear H1
                   exact absurd H (by simp)
              ·rw [if_neg c47] at H
               exact absurd H (by simp)
             ·rw [if_neg c46] at H
              exact absurd H (by simp)
            ·rw [if_neg c44] at H
             exact absurd H (by simp)
           ·rw [if_neg c43] at H
            exact absurd H (by simp)
          ·replace c42 := Bool.eq_false_iff.mpr c42
           subst c42
           have H1 : (if t312 = true then ((route_Same.f t315 t316 t317 t320 t321 t322 0 0 ([] : List Int) 0 0 0).bind fun t343 => (some t343)) else (none)) = some r := by rw [if_neg (show ¬ (false = true) by decide)] at H; exact H
           clear H
           have H := H1
           clear H1
           by_cases c137 : t312 = true
           ·subst c137
            have H1 : ((route_Same.f t315 t316 t317 t320 t321 t322 0 0 ([] : List Int) 0 0 0).bind fun t343 => (some t343)) = some r := by rw [if_pos rfl] at H; exact H
            clear H
            have H := H1
            clear H1
            replace H := Option.bind_eq_some_iff.mp H
            obtain ⟨t343, A1380, H⟩ := H
            replace H : (some t343) = some r := H
            have A138 := Aside0.mk A1380
            clear A1380
            obtain rfl := Option.some.inj H
            have hnb139 := NB324_334.out
            have hnc139 := NB334_324.out
            have hcz140_0 : wc.cell? ⟨gb324, 0, none⟩ = some (.int .i64 t315) := (blk_cell BK324.out 0).trans rfl
            have hcz140_1 : wc.cell? ⟨gb324, 1, none⟩ = some (.int .i64 t316) := (blk_cell BK324.out 1).trans rfl
            have hcz140_2 : wc.cell? ⟨gb324, 2, none⟩ = some (.slice Ao15 t317.length co15) := (blk_cell BK324.out 2).trans rfl
            have hcz140_3 : wc.cell? ⟨gb324, 3, none⟩ = some (.int .i64 t320) := (blk_cell BK324.out 3).trans rfl
            have hcz140_4 : wc.cell? ⟨gb324, 4, none⟩ = some (.int .i64 t321) := (blk_cell BK324.out 4).trans rfl
            have hcz140_5 : wc.cell? ⟨gb324, 5, none⟩ = some (.int .i64 t322) := (blk_cell BK324.out 5).trans rfl
            have hfz140_0 := blk_frozen BK324.out 0
            have hfz140_1 := blk_frozen BK324.out 1
            have hfz140_2 := blk_frozen BK324.out 2
            have hfz140_3 := blk_frozen BK324.out 3
            have hfz140_4 := blk_frozen BK324.out 4
            have hfz140_5 := blk_frozen BK324.out 5
            go_wp2_with (first | (go_at_call 12; (refine (route_Same.calls t315 t316 _ _ t317 t320 t321 t322 0 0 _ _ ([] : List Int) 0 0 0 t343 _ ?side1 ?side2 ?side3 ?side4 A138.out).mono ?_); (case side1 => repeat (first | exact (Kd.V_reads' HO_325002.out).2.2 | (with_reducible refine Kd.C_alloc ?_ _) | (with_reducible refine Kd.C_drewN ?_ _) | (with_reducible refine Kd.C_drew ?_))); (case side2 => exact (Kd.V_reads' HO_325002.out).2.1); (case side3 => exact Kd.C_nil _ _); (case side4 => exact Nat.le_refl _); rintro e w141 ⟨rfl, hb⟩; have n0_ := Aside0.mk (Kd.V_below (by (with_reducible repeat first|apply vA6|apply vN6|apply vD6); exact HO_0.out) hb); have n1_ := Aside0.mk (Kd.V_below (by (with_reducible repeat first|apply vA6|apply vN6|apply vD6); exact HO_1.out) hb); have n2_ := Aside0.mk (Kd.N_below (by (with_reducible repeat (first | apply Kd.N_alloc | apply Kd.N_drewN | apply Kd.N_drew)); exact HO_11.out) hb); have n3_ := Aside0.mk (Kd.V_below (by (with_reducible repeat first|apply vA6|apply vN6|apply vD6); exact HO_325002.out) hb); have n4_ := Aside0.mk (Kd.V_below (by (with_reducible repeat first|apply vA6|apply vN6|apply vD6); exact HO_335002.out) hb); have n5_ := Aside0.mk (blk_below (g := gb324) (o := .cells #[.int .i64 t315, .int .i64 t316, .slice Ao15 t317.length co15, .int .i64 t320, .int .i64 t321, .int .i64 t322] 27 (0, 0)) (by (with_reducible repeat first|apply zN6|apply zD6|apply zA6); exact BK324.out) hb); have n6_ := Aside0.mk (blk_below (g := gb334) (o := .cells #[.int .i64 t325, .int .i64 t326, .slice Ao21 t327.length co21, .int .i64 t330, .int .i64 t331, .int .i64 t332] 27 (0, 0)) (by (with_reducible repeat first|apply zN6|apply zD6|apply zA6); exact BK334.out) hb); have n7_ := Aside0.mk (below_step (by repeat (first | (with_reducible first | exact HB.out | apply below_alloc | apply pw_below_drewN | apply below_drew1 | refine below_set ?_ GE324.out | refine below_set ?_ GE334.out) | exact HB.out)) hb); clear HO_0; clear HO_1; clear HO_11; clear HO_325002; clear HO_335002; clear BK324; clear BK334; clear HB; have HO_0 := n0_; have HO_1 := n1_; have HO_11 := n2_; have HO_325002 := n3_; have HO_335002 := n4_; have BK324 := n5_; have BK334 := n6_; have HB := n7_; clear n0_ n1_ n2_ n3_ n4_ n5_ n6_ n7_; (try clear hb); (try clear hb2); (try clear hk); (try clear hi)))
            go_ret
            exact ⟨by first | rfl | (simp [errW_none, errW_some] <;> rfl) | (simp [*, errW_none, errW_some] <;> rfl), by repeat (first | (with_reducible first | exact HB.out | apply below_alloc | apply pw_below_drewN | apply below_drew1 | refine below_set ?_ GE324.out | refine below_set ?_ GE334.out) | exact HB.out)⟩
           ·replace c137 := Bool.eq_false_iff.mpr c137
            subst c137
            have H1 : (none) = some r := by rw [if_neg (show ¬ (false = true) by decide)] at H; exact H
            clear H
            have H := H1
            clear H1
            exact absurd H (by simp)

end Go.Proofs.Ytmbacpnmniemnaa.PAll
