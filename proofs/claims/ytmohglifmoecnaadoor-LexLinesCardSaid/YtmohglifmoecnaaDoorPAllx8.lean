-- Written by a program of this session's (wip/tools), out of the translation. Lean checks it.
import Derived.Test.YtmohglifmoecnaaDoorPAllx0
import Derived.Test.YtmohglifmoecnaaDoorPAllx1
import Derived.Test.YtmohglifmoecnaaDoorPAllx3
import Derived.Test.YtmohglifmoecnaaDoorPAllx4
namespace Go.Proofs.YtmohglifmoecnaaDoor.PAll
open Go.RowKit Go.Proofs.YtmohglifmoecnaaDoorW.PrintWords Go.Proofs.YtmohglifmoecnaaDoorW.PrintLast Go.Proofs.YtmohglifmoecnaaDoorW.PrintMore
attribute [local go_sem] max2_int min2_int max_two min_two max_three min_three max_four min_four   -- for this text's walks alone
set_option linter.unusedVariables false
set_option linter.unusedSimpArgs false

attribute [local go_sem high] eqA32
/-! ### ridgewaylaw11_LexLines: function 8 -/
mutual
def ridgewaylaw11_LexLines.j0 : Nat → ByteArray → ByteArray → Bool → Bool → Option (Bool)
  | 0, _, _, _, _ => none
  | k + 1, x0, x1, x5, x25 => if x25 = true then (some x5) else ((lex_All.f x0).bind fun bt209 => ((lex_All.f x1).bind fun bt214 => (if x0.size + 1 ≤ 9223372036854775807 then (if x0.size + 1 + x1.size ≤ 9223372036854775807 then ((lex_All.f ((x0 ++ (⟨#[10]⟩ : ByteArray)) ++ x1)).bind fun bt219 => (if bt209.2.2 = 0 then (ridgewaylaw11_LexLines.j1 k x5 bt209.1 bt209.2.1 bt209.2.2 bt214.1 bt214.2.1 bt214.2.2 bt219.1 bt219.2.1 bt219.2.2 (bt214.2.2 != 0)) else (ridgewaylaw11_LexLines.j1 k x5 bt209.1 bt209.2.1 bt209.2.2 bt214.1 bt214.2.1 bt214.2.2 bt219.1 bt219.2.1 bt219.2.2 true))) else (none)) else (none))))
def ridgewaylaw11_LexLines.j1 : Nat → Bool → List (S32) → Int → Int → List (S32) → Int → Int → List (S32) → Int → Int → Bool → Option (Bool)
  | 0, _, _, _, _, _, _, _, _, _, _, _ => none
  | k + 1, x5, x6, x7, x8, x9, x10, x11, x12, x13, x14, x53 => if x53 = true then (if x5 = true then (if x8 = 0 then (if x14 = x11 then (some (x13 == (wrap64 ((wrap64 (x7 + 1)) + x10)))) else (none)) else (if x14 = x8 then (if x13 = x7 then (some true) else (none)) else (none))) else (none)) else (if x14 = 0 then (if x13 = (wrap64 ((wrap64 (x7 + 1)) + x10)) then (if (x12.length : Int) = (wrap64 ((x6.length : Int) + (x9.length : Int))) then (ridgewaylaw11_LexLines.j2 k x5 x6 x7 x9 x12 ((x6.length : Int) == 0)) else (ridgewaylaw11_LexLines.j2 k x5 x6 x7 x9 x12 true)) else (ridgewaylaw11_LexLines.j2 k x5 x6 x7 x9 x12 true)) else (ridgewaylaw11_LexLines.j2 k x5 x6 x7 x9 x12 true))
def ridgewaylaw11_LexLines.j2 : Nat → Bool → List (S32) → Int → List (S32) → List (S32) → Bool → Option (Bool)
  | 0, _, _, _, _, _, _ => none
  | k + 1, x5, x6, x7, x9, x12, x110 => if x110 = true then (none) else (ridgewaylaw11_LexLines.l0 k x5 x6 x7 x9 x12 0)
def ridgewaylaw11_LexLines.l0 : Nat → Bool → List (S32) → Int → List (S32) → List (S32) → Int → Option (Bool)
  | 0, _, _, _, _, _, _ => none
  | k + 1, x5, x6, x7, x9, x12, x15 => if x15 < (x12.length : Int) then (if x15 < (wrap64 ((x6.length : Int) - 1)) then (if 0 ≤ x15 then (if x15 < (x6.length : Int) then (if (!(((rd_T32 x12 x15).f0) == ((rd_T32 x6 x15).f0)) || (!(((rd_T32 x12 x15).f1) == ((rd_T32 x6 x15).f1)) || (!((((rd_T32 x12 x15).f2).toList) == (((rd_T32 x6 x15).f2).toList))))) = true then (ridgewaylaw11_LexLines.j4 k x5 x6 x7 x9 x12 x15 true) else (if x15 = (wrap64 ((x6.length : Int) - 1)) then (if ((rd_T32 x12 x15).f0) = 1 then (ridgewaylaw11_LexLines.j4 k x5 x6 x7 x9 x12 x15 (((rd_T32 x12 x15).f1) != x7)) else (ridgewaylaw11_LexLines.j4 k x5 x6 x7 x9 x12 x15 true)) else (ridgewaylaw11_LexLines.j4 k x5 x6 x7 x9 x12 x15 false))) else (none)) else (none)) else (if x15 = (wrap64 ((x6.length : Int) - 1)) then (if 0 ≤ x15 then (if ((rd_T32 x12 x15).f0) = 1 then (ridgewaylaw11_LexLines.j4 k x5 x6 x7 x9 x12 x15 (((rd_T32 x12 x15).f1) != x7)) else (ridgewaylaw11_LexLines.j4 k x5 x6 x7 x9 x12 x15 true)) else (none)) else (ridgewaylaw11_LexLines.j4 k x5 x6 x7 x9 x12 x15 false))) else (some x5)
def ridgewaylaw11_LexLines.j4 : Nat → Bool → List (S32) → Int → List (S32) → List (S32) → Int → Bool → Option (Bool)
  | 0, _, _, _, _, _, _, _ => none
  | k + 1, x5, x6, x7, x9, x12, x15, x156 => if x156 = true then (none) else (if x15 ≥ (x6.length : Int) then (if 0 ≤ (wrap64 (x15 - (x6.length : Int))) then (if (wrap64 (x15 - (x6.length : Int))) < (x9.length : Int) then (if 0 ≤ x15 then (if x15 < (x12.length : Int) then (if (!(((rd_T32 x12 x15).f0) == ((rd_T32 x9 (wrap64 (x15 - (x6.length : Int)))).f0)) || (!(((rd_T32 x12 x15).f1) == (wrap64 ((wrap64 (((rd_T32 x9 (wrap64 (x15 - (x6.length : Int)))).f1) + x7)) + 1))) || (!((((rd_T32 x12 x15).f2).toList) == (((rd_T32 x9 (wrap64 (x15 - (x6.length : Int)))).f2).toList))))) = true then (none) else (ridgewaylaw11_LexLines.l0 k x5 x6 x7 x9 x12 (wrap64 (x15 + 1)))) else (none)) else (none)) else (none)) else (none)) else (ridgewaylaw11_LexLines.l0 k x5 x6 x7 x9 x12 (wrap64 (x15 + 1))))
end
def ridgewaylaw11_LexLines.f (k : Nat) (a0 : ByteArray) (a1 : ByteArray) : Option (Bool) := (ridgewaylaw11_awake.f).bind fun t208 => (if (a0.size : Int) > 1000 then (ridgewaylaw11_LexLines.j0 k a0 a1 t208 true) else (ridgewaylaw11_LexLines.j0 k a0 a1 t208 (decide ((a1.size : Int) > 1000))))
theorem ridgewaylaw11_LexLines.mono_l : ∀ k, (∀ y0 y1 y2 y3, LeO (ridgewaylaw11_LexLines.j0 k y0 y1 y2 y3) (ridgewaylaw11_LexLines.j0 (k + 1) y0 y1 y2 y3)) ∧ (∀ y0 y1 y2 y3 y4 y5 y6 y7 y8 y9 y10, LeO (ridgewaylaw11_LexLines.j1 k y0 y1 y2 y3 y4 y5 y6 y7 y8 y9 y10) (ridgewaylaw11_LexLines.j1 (k + 1) y0 y1 y2 y3 y4 y5 y6 y7 y8 y9 y10)) ∧ (∀ y0 y1 y2 y3 y4 y5, LeO (ridgewaylaw11_LexLines.j2 k y0 y1 y2 y3 y4 y5) (ridgewaylaw11_LexLines.j2 (k + 1) y0 y1 y2 y3 y4 y5)) ∧ (∀ y0 y1 y2 y3 y4 y5, LeO (ridgewaylaw11_LexLines.l0 k y0 y1 y2 y3 y4 y5) (ridgewaylaw11_LexLines.l0 (k + 1) y0 y1 y2 y3 y4 y5)) ∧ (∀ y0 y1 y2 y3 y4 y5 y6, LeO (ridgewaylaw11_LexLines.j4 k y0 y1 y2 y3 y4 y5 y6) (ridgewaylaw11_LexLines.j4 (k + 1) y0 y1 y2 y3 y4 y5 y6))
  | 0 => ⟨fun _ _ _ _ r h => by simp [ridgewaylaw11_LexLines.j0] at h, fun _ _ _ _ _ _ _ _ _ _ _ r h => by simp [ridgewaylaw11_LexLines.j1] at h, fun _ _ _ _ _ _ r h => by simp [ridgewaylaw11_LexLines.j2] at h, fun _ _ _ _ _ _ r h => by simp [ridgewaylaw11_LexLines.l0] at h, fun _ _ _ _ _ _ _ r h => by simp [ridgewaylaw11_LexLines.j4] at h⟩
  | k + 1 => by
    obtain ⟨ih0, ih1, ih2, ih3, ih4⟩ := ridgewaylaw11_LexLines.mono_l k
    refine ⟨?_, ?_, ?_, ?_, ?_⟩
    · intro y0 y1 y2 y3
      unfold ridgewaylaw11_LexLines.j0
      repeat' first
      | (with_reducible exact ih0 _ _ _ _)
      | (with_reducible exact ih1 _ _ _ _ _ _ _ _ _ _ _)
      | (with_reducible exact ih2 _ _ _ _ _ _)
      | (with_reducible exact ih3 _ _ _ _ _ _)
      | (with_reducible exact ih4 _ _ _ _ _ _ _)
      | (with_reducible exact LeO.refl _)
      | (with_reducible exact LeO.none _)
      | (with_reducible refine LeO.ite ?_ ?_)
      | (with_reducible refine LeO.bind ?_ (fun _ => ?_))
      | exact ih0 _ _ _ _
      | exact ih1 _ _ _ _ _ _ _ _ _ _ _
      | exact ih2 _ _ _ _ _ _
      | exact ih3 _ _ _ _ _ _
      | exact ih4 _ _ _ _ _ _ _
      | exact LeO.none _
      | refine LeO.ite ?_ ?_
      | refine LeO.bind ?_ (fun _ => ?_)
    · intro y0 y1 y2 y3 y4 y5 y6 y7 y8 y9 y10
      unfold ridgewaylaw11_LexLines.j1
      repeat' first
      | (with_reducible exact ih0 _ _ _ _)
      | (with_reducible exact ih1 _ _ _ _ _ _ _ _ _ _ _)
      | (with_reducible exact ih2 _ _ _ _ _ _)
      | (with_reducible exact ih3 _ _ _ _ _ _)
      | (with_reducible exact ih4 _ _ _ _ _ _ _)
      | (with_reducible exact LeO.refl _)
      | (with_reducible exact LeO.none _)
      | (with_reducible refine LeO.ite ?_ ?_)
      | (with_reducible refine LeO.bind ?_ (fun _ => ?_))
      | exact ih0 _ _ _ _
      | exact ih1 _ _ _ _ _ _ _ _ _ _ _
      | exact ih2 _ _ _ _ _ _
      | exact ih3 _ _ _ _ _ _
      | exact ih4 _ _ _ _ _ _ _
      | exact LeO.none _
      | refine LeO.ite ?_ ?_
      | refine LeO.bind ?_ (fun _ => ?_)
    · intro y0 y1 y2 y3 y4 y5
      unfold ridgewaylaw11_LexLines.j2
      repeat' first
      | (with_reducible exact ih0 _ _ _ _)
      | (with_reducible exact ih1 _ _ _ _ _ _ _ _ _ _ _)
      | (with_reducible exact ih2 _ _ _ _ _ _)
      | (with_reducible exact ih3 _ _ _ _ _ _)
      | (with_reducible exact ih4 _ _ _ _ _ _ _)
      | (with_reducible exact LeO.refl _)
      | (with_reducible exact LeO.none _)
      | (with_reducible refine LeO.ite ?_ ?_)
      | (with_reducible refine LeO.bind ?_ (fun _ => ?_))
      | exact ih0 _ _ _ _
      | exact ih1 _ _ _ _ _ _ _ _ _ _ _
      | exact ih2 _ _ _ _ _ _
      | exact ih3 _ _ _ _ _ _
      | exact ih4 _ _ _ _ _ _ _
      | exact LeO.none _
      | refine LeO.ite ?_ ?_
      | refine LeO.bind ?_ (fun _ => ?_)
    · intro y0 y1 y2 y3 y4 y5
      unfold ridgewaylaw11_LexLines.l0
      repeat' first
      | (with_reducible exact ih0 _ _ _ _)
      | (with_reducible exact ih1 _ _ _ _ _ _ _ _ _ _ _)
      | (with_reducible exact ih2 _ _ _ _ _ _)
      | (with_reducible exact ih3 _ _ _ _ _ _)
      | (with_reducible exact ih4 _ _ _ _ _ _ _)
      | (with_reducible exact LeO.refl _)
      | (with_reducible exact LeO.none _)
      | (with_reducible refine LeO.ite ?_ ?_)
      | (with_reducible refine LeO.bind ?_ (fun _ => ?_))
      | exact ih0 _ _ _ _
      | exact ih1 _ _ _ _ _ _ _ _ _ _ _
      | exact ih2 _ _ _ _ _ _
      | exact ih3 _ _ _ _ _ _
      | exact ih4 _ _ _ _ _ _ _
      | exact LeO.none _
      | refine LeO.ite ?_ ?_
      | refine LeO.bind ?_ (fun _ => ?_)
    · intro y0 y1 y2 y3 y4 y5 y6
      unfold ridgewaylaw11_LexLines.j4
      repeat' first
      | (with_reducible exact ih0 _ _ _ _)
      | (with_reducible exact ih1 _ _ _ _ _ _ _ _ _ _ _)
      | (with_reducible exact ih2 _ _ _ _ _ _)
      | (with_reducible exact ih3 _ _ _ _ _ _)
      | (with_reducible exact ih4 _ _ _ _ _ _ _)
      | (with_reducible exact LeO.refl _)
      | (with_reducible exact LeO.none _)
      | (with_reducible refine LeO.ite ?_ ?_)
      | (with_reducible refine LeO.bind ?_ (fun _ => ?_))
      | exact ih0 _ _ _ _
      | exact ih1 _ _ _ _ _ _ _ _ _ _ _
      | exact ih2 _ _ _ _ _ _
      | exact ih3 _ _ _ _ _ _
      | exact ih4 _ _ _ _ _ _ _
      | exact LeO.none _
      | refine LeO.ite ?_ ?_
      | refine LeO.bind ?_ (fun _ => ?_)
theorem ridgewaylaw11_LexLines.mono : ∀ a0 a1 k, LeO (ridgewaylaw11_LexLines.f k a0 a1) (ridgewaylaw11_LexLines.f (k + 1) a0 a1) := by
  intro a0 a1 k
  obtain ⟨ih0, ih1, ih2, ih3, ih4⟩ := ridgewaylaw11_LexLines.mono_l k
  unfold ridgewaylaw11_LexLines.f
  repeat' first
      | (with_reducible exact ih0 _ _ _ _)
      | (with_reducible exact ih1 _ _ _ _ _ _ _ _ _ _ _)
      | (with_reducible exact ih2 _ _ _ _ _ _)
      | (with_reducible exact ih3 _ _ _ _ _ _)
      | (with_reducible exact ih4 _ _ _ _ _ _ _)
      | (with_reducible exact LeO.refl _)
      | (with_reducible exact LeO.none _)
      | (with_reducible refine LeO.ite ?_ ?_)
      | (with_reducible refine LeO.bind ?_ (fun _ => ?_))
      | exact ih0 _ _ _ _
      | exact ih1 _ _ _ _ _ _ _ _ _ _ _
      | exact ih2 _ _ _ _ _ _
      | exact ih3 _ _ _ _ _ _
      | exact ih4 _ _ _ _ _ _ _
      | exact LeO.none _
      | refine LeO.ite ?_ ?_
      | refine LeO.bind ?_ (fun _ => ?_)
/-- A row beside such a box. -/
theorem R_box4 {W : World} {base g n : Nat} {ok : Nat → Prop} {v : Value} {xs : List S32} (v0 v1 v2 v3 : Value) (h : k32.R 32 W base (fun k => ok k ∧ k ≠ g) v xs) :
    k32.R 32 (((((W.setCell ⟨g, 0, none⟩ v0).setCell ⟨g, 1, none⟩ v1).setCell ⟨g, 2, none⟩ v2).setCell ⟨g, 1, none⟩ v3).drewN n) base ok v xs := by
  have h1 := Kd.R_far (p := ⟨g, 0, none⟩) h (fun _ hk => hk.2) v0
  have h2 := Kd.R_far (p := ⟨g, 1, none⟩) h1 (fun _ hk => hk.2) v1
  have h3 := Kd.R_far (p := ⟨g, 2, none⟩) h2 (fun _ hk => hk.2) v2
  have h4 := Kd.R_far (p := ⟨g, 1, none⟩) h3 (fun _ hk => hk.2) v3
  exact Kd.R_drewN (Kd.R_mono h4 (fun _ hk => hk.1)) n
/-- What a box of one token reads as, once all of it is written, and its place anew. -/
theorem box_reads {w : World} {g : Nat} (h : w.heap[g]? = some (.cells #[.int .i64 0, .int .i64 0, .string (⟨#[]⟩ : ByteArray)] 32 (0, 0))) (v0 v1 v2 v3 : Value) :
    ((((w.setCell ⟨g, 0, none⟩ v0).setCell ⟨g, 1, none⟩ v1).setCell ⟨g, 2, none⟩ v2).setCell ⟨g, 1, none⟩ v3).cell? ⟨g, 0, none⟩ = some v0 ∧
    ((((w.setCell ⟨g, 0, none⟩ v0).setCell ⟨g, 1, none⟩ v1).setCell ⟨g, 2, none⟩ v2).setCell ⟨g, 1, none⟩ v3).cell? ⟨g, 1, none⟩ = some v3 ∧
    ((((w.setCell ⟨g, 0, none⟩ v0).setCell ⟨g, 1, none⟩ v1).setCell ⟨g, 2, none⟩ v2).setCell ⟨g, 1, none⟩ v3).cell? ⟨g, 2, none⟩ = some v2 ∧
    (∀ n, (((((w.drewN n).setCell ⟨g, 0, none⟩ v0).setCell ⟨g, 1, none⟩ v1).setCell ⟨g, 2, none⟩ v2).setCell ⟨g, 1, none⟩ v3).cell? ⟨g, 0, none⟩ = some v0) ∧
    (∀ n, (((((w.drewN n).setCell ⟨g, 0, none⟩ v0).setCell ⟨g, 1, none⟩ v1).setCell ⟨g, 2, none⟩ v2).setCell ⟨g, 1, none⟩ v3).cell? ⟨g, 1, none⟩ = some v3) ∧
    (∀ n, (((((w.drewN n).setCell ⟨g, 0, none⟩ v0).setCell ⟨g, 1, none⟩ v1).setCell ⟨g, 2, none⟩ v2).setCell ⟨g, 1, none⟩ v3).cell? ⟨g, 2, none⟩ = some v2) := by
  have hb := blk_set (blk_set (blk_set (blk_set h 0 v0) 1 v1) 2 v2) 1 v3
  have hd := fun n => blk_set (blk_set (blk_set (blk_set (w := w.drewN n) h 0 v0) 1 v1) 2 v2) 1 v3
  exact ⟨(blk_cell hb 0).trans rfl, (blk_cell hb 1).trans rfl, (blk_cell hb 2).trans rfl, fun n => (blk_cell (hd n) 0).trans rfl, fun n => (blk_cell (hd n) 1).trans rfl, fun n => (blk_cell (hd n) 2).trans rfl⟩
set_option maxHeartbeats 8000000 in
set_option maxRecDepth 100000 in
theorem ridgewaylaw11_LexLines.calls (k : Nat) (a0 : ByteArray) (a1 : ByteArray) (r : Bool) (w : World) (hT : Tabs w) (h : ridgewaylaw11_LexLines.f k a0 a1 = some r) :
    Calls Tryd.prog 8 #[.string a0, .string a1] w fun e w' => e = .returned (.bool r) ∧ Below w.heap.size w w' := by
  have hu32 := Tryd.underlying32
  have HT := Aside0.mk hT
  clear hT
  have HB := Aside0.mk (Below.refl w.heap.size w)
  have H : ((ridgewaylaw11_awake.f).bind fun t208 => (if (a0.size : Int) > 1000 then (ridgewaylaw11_LexLines.j0 k a0 a1 t208 true) else (ridgewaylaw11_LexLines.j0 k a0 a1 t208 (decide ((a1.size : Int) > 1000))))) = some r := h
  clear h
  replace H := Option.bind_eq_some_iff.mp H
  obtain ⟨t208, A30, H⟩ := H
  replace H : (if (a0.size : Int) > 1000 then (ridgewaylaw11_LexLines.j0 k a0 a1 t208 true) else (ridgewaylaw11_LexLines.j0 k a0 a1 t208 (decide ((a1.size : Int) > 1000)))) = some r := H
  have A3 := Aside0.mk A30
  clear A30
  have HC4 := Aside0.mk H
  clear H
  go_enter Tryd.func8, Tryd.ntmps8
  go_upto_region 2 with (first | (go_at_call 9; (with_reducible refine (ridgewaylaw11_awake.calls  t208 _ ?side1 A3.out).mono ?_); (case side1 => exact Tabs.below HT.out (by repeat (first | (with_reducible first | exact HB.out | apply below_alloc | apply pw_below_drewN | apply below_drew1) | exact HB.out))); rintro e w5 ⟨rfl, hb⟩; have n0_ := Aside0.mk (below_step (by repeat (first | (with_reducible first | exact HB.out | apply below_alloc | apply pw_below_drewN | apply below_drew1) | exact HB.out)) hb); clear HB; have HB := n0_; clear n0_; (try clear hb); (try clear hb2); (try clear hk); (try clear hi)))
  repeat (go_quiet (first | (go_at_call 9; (with_reducible refine (ridgewaylaw11_awake.calls  t208 _ ?side1 A3.out).mono ?_); (case side1 => exact Tabs.below HT.out (by repeat (first | (with_reducible first | exact HB.out | apply below_alloc | apply pw_below_drewN | apply below_drew1) | exact HB.out))); rintro e w5 ⟨rfl, hb⟩; have n0_ := Aside0.mk (below_step (by repeat (first | (with_reducible first | exact HB.out | apply below_alloc | apply pw_below_drewN | apply below_drew1) | exact HB.out)) hb); clear HB; have HB := n0_; clear n0_; (try clear hb); (try clear hb2); (try clear hk); (try clear hi))); go_upto_region 2 with (first | (go_at_call 9; (with_reducible refine (ridgewaylaw11_awake.calls  t208 _ ?side1 A3.out).mono ?_); (case side1 => exact Tabs.below HT.out (by repeat (first | (with_reducible first | exact HB.out | apply below_alloc | apply pw_below_drewN | apply below_drew1) | exact HB.out))); rintro e w5 ⟨rfl, hb⟩; have n0_ := Aside0.mk (below_step (by repeat (first | (with_reducible first | exact HB.out | apply below_alloc | apply pw_below_drewN | apply below_drew1) | exact HB.out)) hb); clear HB; have HB := n0_; clear n0_; (try clear hb); (try clear hb2); (try clear hk); (try clear hi))))
  (try simp only [Act.put, List.setIfInBounds_toArray, List.set_cons_zero, List.set_cons_succ])
  go_cut [25] (fun v25 wc => ∃ (kq : Nat) (x25_3 : Bool), v25 = .bool x25_3 ∧ Aside0 (ridgewaylaw11_LexLines.j0 kq a0 a1 t208 x25_3 = some r) ∧ Aside0 (kq ≤ k) ∧ Aside0 (Below w.heap.size w wc))
  case first =>
   as_aux_lemma =>
    have H := HC4.out
    clear HC4
    by_cases c6 : (a0.size : Int) > 1000
    · rw [if_pos c6] at H
      have c6b0 : decide (1000 < (a0.size : Int)) = true := decide_eq_true c6
      have c6b1 : decide (1000 < a0.size) = true := decide_eq_true (by omega)
      clear c6
      (first | (rw [c6b0]; skip) | (have cw_ := c6b0; simp only [gt_iff_lt, ge_iff_le, Int.natCast_pos] at cw_; rw [cw_]; clear cw_; skip) | skip)
      have H' := Aside0.mk H
      clear H
      go_wp2
      repeat (go_quiet (fail); try go_wp2)
      go_meet
      case rel => exact ⟨_, (true), (by first | rfl | (simp; done) | (simp [*]; done)), H', ⟨by first | omega | exact Nat.le_refl _⟩, ⟨by repeat (first | (with_reducible first | exact HB.out | apply below_alloc | apply pw_below_drewN | apply below_drew1) | exact HB.out)⟩⟩
    · rw [if_neg c6] at H
      have c6b0 : decide (1000 < (a0.size : Int)) = false := decide_eq_false c6
      have c6b1 : decide (1000 < a0.size) = false := decide_eq_false (by omega)
      clear c6
      (first | (rw [c6b0]; skip) | (have cw_ := c6b0; simp only [gt_iff_lt, ge_iff_le, Int.natCast_pos] at cw_; rw [cw_]; clear cw_; skip) | skip)
      have H' := Aside0.mk H
      clear H
      go_wp2
      repeat (go_quiet (fail); try go_wp2)
      go_meet
      case rel => exact ⟨_, (decide ((a1.size : Int) > 1000)), (by first | rfl | (simp; done) | (simp [*]; done)), H', ⟨by first | omega | exact Nat.le_refl _⟩, ⟨by repeat (first | (with_reducible first | exact HB.out | apply below_alloc | apply pw_below_drewN | apply below_drew1) | exact HB.out)⟩⟩
  case rest =>
   as_aux_lemma =>
    clear HC4
    try clear p2
    try clear c6
    try clear c6b0
    try clear c6b1
    obtain ⟨kq, x25_3, rfl, HA, HJ3, HB⟩ := hcut
    cases kq with
    | zero => exact absurd HA.out (by simp [ridgewaylaw11_LexLines.j0])
    | succ kj3 =>
      have H := HA.out
      clear HA
      simp only [ridgewaylaw11_LexLines.j0] at H
      by_cases c7 : x25_3 = true
      · subst c7
        have H1 : (some t208) = some r := by rw [if_pos rfl] at H; exact H
        clear H
        have H := H1
        clear H1
        obtain rfl := Option.some.inj H
        go_wp2
        repeat (go_quiet (fail); try go_wp2)
        go_ret
        exact ⟨by first | rfl | (simp [errW_none, errW_some] <;> rfl) | (simp [*, errW_none, errW_some] <;> rfl), by repeat (first | (with_reducible first | exact HB.out | apply below_alloc | apply pw_below_drewN | apply below_drew1) | exact HB.out)⟩
      · replace c7 := Bool.eq_false_iff.mpr c7
        subst c7
        have H1 : ((lex_All.f a0).bind fun bt209 => ((lex_All.f a1).bind fun bt214 => (if a0.size + 1 ≤ 9223372036854775807 then (if a0.size + 1 + a1.size ≤ 9223372036854775807 then ((lex_All.f ((a0 ++ (⟨#[10]⟩ : ByteArray)) ++ a1)).bind fun bt219 => (if bt209.2.2 = 0 then (ridgewaylaw11_LexLines.j1 kj3 t208 bt209.1 bt209.2.1 bt209.2.2 bt214.1 bt214.2.1 bt214.2.2 bt219.1 bt219.2.1 bt219.2.2 (bt214.2.2 != 0)) else (ridgewaylaw11_LexLines.j1 kj3 t208 bt209.1 bt209.2.1 bt209.2.2 bt214.1 bt214.2.1 bt214.2.2 bt219.1 bt219.2.1 bt219.2.2 true))) else (none)) else (none)))) = some r := by rw [if_neg (show ¬ (false = true) by decide)] at H; exact H
        clear H
        have H := H1
        clear H1
        replace H := Option.bind_eq_some_iff.mp H
        obtain ⟨⟨t209, t210, t211⟩, A80, H⟩ := H
        replace H : ((lex_All.f a1).bind fun bt214 => (if a0.size + 1 ≤ 9223372036854775807 then (if a0.size + 1 + a1.size ≤ 9223372036854775807 then ((lex_All.f ((a0 ++ (⟨#[10]⟩ : ByteArray)) ++ a1)).bind fun bt219 => (if t211 = 0 then (ridgewaylaw11_LexLines.j1 kj3 t208 t209 t210 t211 bt214.1 bt214.2.1 bt214.2.2 bt219.1 bt219.2.1 bt219.2.2 (bt214.2.2 != 0)) else (ridgewaylaw11_LexLines.j1 kj3 t208 t209 t210 t211 bt214.1 bt214.2.1 bt214.2.2 bt219.1 bt219.2.1 bt219.2.2 true))) else (none)) else (none))) = some r := H
        have A8 := Aside0.mk A80
        clear A80
        replace H := Option.bind_eq_some_iff.mp H
        obtain ⟨⟨t214, t215, t216⟩, A90, H⟩ := H
        replace H : (if a0.size + 1 ≤ 9223372036854775807 then (if a0.size + 1 + a1.size ≤ 9223372036854775807 then ((lex_All.f ((a0 ++ (⟨#[10]⟩ : ByteArray)) ++ a1)).bind fun bt219 => (if t211 = 0 then (ridgewaylaw11_LexLines.j1 kj3 t208 t209 t210 t211 t214 t215 t216 bt219.1 bt219.2.1 bt219.2.2 (t216 != 0)) else (ridgewaylaw11_LexLines.j1 kj3 t208 t209 t210 t211 t214 t215 t216 bt219.1 bt219.2.1 bt219.2.2 true))) else (none)) else (none)) = some r := H
        have A9 := Aside0.mk A90
        clear A90
        by_cases c10 : a0.size + 1 ≤ 9223372036854775807
        · rw [if_pos c10] at H
          have c10b0 := eq_true c10
          have c10b1 : decide (a0.size + 1 ≤ 9223372036854775807) = true := decide_eq_true c10
          try have c10b2 : (9223372036854775807 < a0.size + 1) = False := eq_false (Nat.not_lt.2 c10)
          by_cases c11 : a0.size + 1 + a1.size ≤ 9223372036854775807
          · rw [if_pos c11] at H
            have c11b0 := eq_true c11
            have c11b1 : decide (a0.size + 1 + a1.size ≤ 9223372036854775807) = true := decide_eq_true c11
            try have c11b2 : (9223372036854775807 < a0.size + 1 + a1.size) = False := eq_false (Nat.not_lt.2 c11)
            replace H := Option.bind_eq_some_iff.mp H
            obtain ⟨⟨t219, t220, t221⟩, A120, H⟩ := H
            replace H : (if t211 = 0 then (ridgewaylaw11_LexLines.j1 kj3 t208 t209 t210 t211 t214 t215 t216 t219 t220 t221 (t216 != 0)) else (ridgewaylaw11_LexLines.j1 kj3 t208 t209 t210 t211 t214 t215 t216 t219 t220 t221 true)) = some r := H
            have A12 := Aside0.mk A120
            clear A120
            have HC13 := Aside0.mk H
            clear H
            go_upto_region 7 with (first | (go_at_call 11; (with_reducible refine (lex_All.calls a0 t209 t210 t211 _ ?side1 A8.out).mono ?_); (case side1 => exact Tabs.below HT.out (by repeat (first | (with_reducible first | exact HB.out | apply below_alloc | apply pw_below_drewN | apply below_drew1) | exact HB.out))); rintro e w14 ⟨v212, rfl, ho0, hb⟩; have n0_ := Aside0.mk (Kd.R_lower ho0 (below_size (by repeat (first | (with_reducible first | exact HB.out | apply below_alloc | apply pw_below_drewN | apply below_drew1) | exact HB.out)))); have n1_ := Aside0.mk (below_step (by repeat (first | (with_reducible first | exact HB.out | apply below_alloc | apply pw_below_drewN | apply below_drew1) | exact HB.out)) hb); clear HB; have HO213 := n0_; have HB := n1_; clear n0_ n1_; (try clear hb); (try clear hb2); (try clear hk); (try clear hi); (try clear ho0)) | (go_at_call 11; (with_reducible refine (lex_All.calls a1 t214 t215 t216 _ ?side1 A9.out).mono ?_); (case side1 => exact Tabs.below HT.out (by repeat (first | (with_reducible first | exact HB.out | apply below_alloc | apply pw_below_drewN | apply below_drew1) | exact HB.out))); rintro e w15 ⟨v217, rfl, ho0, hb⟩; have n0_ := Aside0.mk (Kd.R_elder' (by (with_reducible repeat (first | apply Kd.R_alloc | apply Kd.R_drewN | apply Kd.R_drew)); exact HO213.out) (Kd.R_base ho0) hb); have n1_ := Aside0.mk (Kd.R_lower (Kd.R_new' ho0 (Kd.R_lt (by (with_reducible repeat (first | apply Kd.R_alloc | apply Kd.R_drewN | apply Kd.R_drew)); exact HO213.out))) (below_size (by repeat (first | (with_reducible first | exact HB.out | apply below_alloc | apply pw_below_drewN | apply below_drew1) | exact HB.out)))); have n2_ := Aside0.mk (below_step (by repeat (first | (with_reducible first | exact HB.out | apply below_alloc | apply pw_below_drewN | apply below_drew1) | exact HB.out)) hb); clear HO213; clear HB; have HO213 := n0_; have HO218 := n1_; have HB := n2_; clear n0_ n1_ n2_; (try clear hb); (try clear hb2); (try clear hk); (try clear hi); (try clear ho0)) | (go_at_call 11; (with_reducible refine (lex_All.calls ((a0 ++ (⟨#[10]⟩ : ByteArray)) ++ a1) t219 t220 t221 _ ?side1 A12.out).mono ?_); (case side1 => exact Tabs.below HT.out (by repeat (first | (with_reducible first | exact HB.out | apply below_alloc | apply pw_below_drewN | apply below_drew1) | exact HB.out))); rintro e w16 ⟨v222, rfl, ho0, hb⟩; have n0_ := Aside0.mk (Kd.R_elder' (by (with_reducible repeat (first | apply Kd.R_alloc | apply Kd.R_drewN | apply Kd.R_drew)); exact HO213.out) (Kd.R_base ho0) hb); have n1_ := Aside0.mk (Kd.R_elder' (by (with_reducible repeat (first | apply Kd.R_alloc | apply Kd.R_drewN | apply Kd.R_drew)); exact HO218.out) (Kd.R_base ho0) hb); have n2_ := Aside0.mk (Kd.R_lower (Kd.R_new' (Kd.R_new' ho0 (Kd.R_lt (by (with_reducible repeat (first | apply Kd.R_alloc | apply Kd.R_drewN | apply Kd.R_drew)); exact HO213.out))) (Kd.R_lt (by (with_reducible repeat (first | apply Kd.R_alloc | apply Kd.R_drewN | apply Kd.R_drew)); exact HO218.out))) (below_size (by repeat (first | (with_reducible first | exact HB.out | apply below_alloc | apply pw_below_drewN | apply below_drew1) | exact HB.out)))); have n3_ := Aside0.mk (below_step (by repeat (first | (with_reducible first | exact HB.out | apply below_alloc | apply pw_below_drewN | apply below_drew1) | exact HB.out)) hb); clear HO213; clear HO218; clear HB; have HO213 := n0_; have HO218 := n1_; have HO223 := n2_; have HB := n3_; clear n0_ n1_ n2_ n3_; (try clear hb); (try clear hb2); (try clear hk); (try clear hi); (try clear ho0)))
            repeat (go_quiet (first | (go_at_call 11; (with_reducible refine (lex_All.calls a0 t209 t210 t211 _ ?side1 A8.out).mono ?_); (case side1 => exact Tabs.below HT.out (by repeat (first | (with_reducible first | exact HB.out | apply below_alloc | apply pw_below_drewN | apply below_drew1) | exact HB.out))); rintro e w14 ⟨v212, rfl, ho0, hb⟩; have n0_ := Aside0.mk (Kd.R_lower ho0 (below_size (by repeat (first | (with_reducible first | exact HB.out | apply below_alloc | apply pw_below_drewN | apply below_drew1) | exact HB.out)))); have n1_ := Aside0.mk (below_step (by repeat (first | (with_reducible first | exact HB.out | apply below_alloc | apply pw_below_drewN | apply below_drew1) | exact HB.out)) hb); clear HB; have HO213 := n0_; have HB := n1_; clear n0_ n1_; (try clear hb); (try clear hb2); (try clear hk); (try clear hi); (try clear ho0)) | (go_at_call 11; (with_reducible refine (lex_All.calls a1 t214 t215 t216 _ ?side1 A9.out).mono ?_); (case side1 => exact Tabs.below HT.out (by repeat (first | (with_reducible first | exact HB.out | apply below_alloc | apply pw_below_drewN | apply below_drew1) | exact HB.out))); rintro e w15 ⟨v217, rfl, ho0, hb⟩; have n0_ := Aside0.mk (Kd.R_elder' (by (with_reducible repeat (first | apply Kd.R_alloc | apply Kd.R_drewN | apply Kd.R_drew)); exact HO213.out) (Kd.R_base ho0) hb); have n1_ := Aside0.mk (Kd.R_lower (Kd.R_new' ho0 (Kd.R_lt (by (with_reducible repeat (first | apply Kd.R_alloc | apply Kd.R_drewN | apply Kd.R_drew)); exact HO213.out))) (below_size (by repeat (first | (with_reducible first | exact HB.out | apply below_alloc | apply pw_below_drewN | apply below_drew1) | exact HB.out)))); have n2_ := Aside0.mk (below_step (by repeat (first | (with_reducible first | exact HB.out | apply below_alloc | apply pw_below_drewN | apply below_drew1) | exact HB.out)) hb); clear HO213; clear HB; have HO213 := n0_; have HO218 := n1_; have HB := n2_; clear n0_ n1_ n2_; (try clear hb); (try clear hb2); (try clear hk); (try clear hi); (try clear ho0)) | (go_at_call 11; (with_reducible refine (lex_All.calls ((a0 ++ (⟨#[10]⟩ : ByteArray)) ++ a1) t219 t220 t221 _ ?side1 A12.out).mono ?_); (case side1 => exact Tabs.below HT.out (by repeat (first | (with_reducible first | exact HB.out | apply below_alloc | apply pw_below_drewN | apply below_drew1) | exact HB.out))); rintro e w16 ⟨v222, rfl, ho0, hb⟩; have n0_ := Aside0.mk (Kd.R_elder' (by (with_reducible repeat (first | apply Kd.R_alloc | apply Kd.R_drewN | apply Kd.R_drew)); exact HO213.out) (Kd.R_base ho0) hb); have n1_ := Aside0.mk (Kd.R_elder' (by (with_reducible repeat (first | apply Kd.R_alloc | apply Kd.R_drewN | apply Kd.R_drew)); exact HO218.out) (Kd.R_base ho0) hb); have n2_ := Aside0.mk (Kd.R_lower (Kd.R_new' (Kd.R_new' ho0 (Kd.R_lt (by (with_reducible repeat (first | apply Kd.R_alloc | apply Kd.R_drewN | apply Kd.R_drew)); exact HO213.out))) (Kd.R_lt (by (with_reducible repeat (first | apply Kd.R_alloc | apply Kd.R_drewN | apply Kd.R_drew)); exact HO218.out))) (below_size (by repeat (first | (with_reducible first | exact HB.out | apply below_alloc | apply pw_below_drewN | apply below_drew1) | exact HB.out)))); have n3_ := Aside0.mk (below_step (by repeat (first | (with_reducible first | exact HB.out | apply below_alloc | apply pw_below_drewN | apply below_drew1) | exact HB.out)) hb); clear HO213; clear HO218; clear HB; have HO213 := n0_; have HO218 := n1_; have HO223 := n2_; have HB := n3_; clear n0_ n1_ n2_ n3_; (try clear hb); (try clear hb2); (try clear hk); (try clear hi); (try clear ho0))); go_upto_region 7 with (first | (go_at_call 11; (with_reducible refine (lex_All.calls a0 t209 t210 t211 _ ?side1 A8.out).mono ?_); (case side1 => exact Tabs.below HT.out (by repeat (first | (with_reducible first | exact HB.out | apply below_alloc | apply pw_below_drewN | apply below_drew1) | exact HB.out))); rintro e w14 ⟨v212, rfl, ho0, hb⟩; have n0_ := Aside0.mk (Kd.R_lower ho0 (below_size (by repeat (first | (with_reducible first | exact HB.out | apply below_alloc | apply pw_below_drewN | apply below_drew1) | exact HB.out)))); have n1_ := Aside0.mk (below_step (by repeat (first | (with_reducible first | exact HB.out | apply below_alloc | apply pw_below_drewN | apply below_drew1) | exact HB.out)) hb); clear HB; have HO213 := n0_; have HB := n1_; clear n0_ n1_; (try clear hb); (try clear hb2); (try clear hk); (try clear hi); (try clear ho0)) | (go_at_call 11; (with_reducible refine (lex_All.calls a1 t214 t215 t216 _ ?side1 A9.out).mono ?_); (case side1 => exact Tabs.below HT.out (by repeat (first | (with_reducible first | exact HB.out | apply below_alloc | apply pw_below_drewN | apply below_drew1) | exact HB.out))); rintro e w15 ⟨v217, rfl, ho0, hb⟩; have n0_ := Aside0.mk (Kd.R_elder' (by (with_reducible repeat (first | apply Kd.R_alloc | apply Kd.R_drewN | apply Kd.R_drew)); exact HO213.out) (Kd.R_base ho0) hb); have n1_ := Aside0.mk (Kd.R_lower (Kd.R_new' ho0 (Kd.R_lt (by (with_reducible repeat (first | apply Kd.R_alloc | apply Kd.R_drewN | apply Kd.R_drew)); exact HO213.out))) (below_size (by repeat (first | (with_reducible first | exact HB.out | apply below_alloc | apply pw_below_drewN | apply below_drew1) | exact HB.out)))); have n2_ := Aside0.mk (below_step (by repeat (first | (with_reducible first | exact HB.out | apply below_alloc | apply pw_below_drewN | apply below_drew1) | exact HB.out)) hb); clear HO213; clear HB; have HO213 := n0_; have HO218 := n1_; have HB := n2_; clear n0_ n1_ n2_; (try clear hb); (try clear hb2); (try clear hk); (try clear hi); (try clear ho0)) | (go_at_call 11; (with_reducible refine (lex_All.calls ((a0 ++ (⟨#[10]⟩ : ByteArray)) ++ a1) t219 t220 t221 _ ?side1 A12.out).mono ?_); (case side1 => exact Tabs.below HT.out (by repeat (first | (with_reducible first | exact HB.out | apply below_alloc | apply pw_below_drewN | apply below_drew1) | exact HB.out))); rintro e w16 ⟨v222, rfl, ho0, hb⟩; have n0_ := Aside0.mk (Kd.R_elder' (by (with_reducible repeat (first | apply Kd.R_alloc | apply Kd.R_drewN | apply Kd.R_drew)); exact HO213.out) (Kd.R_base ho0) hb); have n1_ := Aside0.mk (Kd.R_elder' (by (with_reducible repeat (first | apply Kd.R_alloc | apply Kd.R_drewN | apply Kd.R_drew)); exact HO218.out) (Kd.R_base ho0) hb); have n2_ := Aside0.mk (Kd.R_lower (Kd.R_new' (Kd.R_new' ho0 (Kd.R_lt (by (with_reducible repeat (first | apply Kd.R_alloc | apply Kd.R_drewN | apply Kd.R_drew)); exact HO213.out))) (Kd.R_lt (by (with_reducible repeat (first | apply Kd.R_alloc | apply Kd.R_drewN | apply Kd.R_drew)); exact HO218.out))) (below_size (by repeat (first | (with_reducible first | exact HB.out | apply below_alloc | apply pw_below_drewN | apply below_drew1) | exact HB.out)))); have n3_ := Aside0.mk (below_step (by repeat (first | (with_reducible first | exact HB.out | apply below_alloc | apply pw_below_drewN | apply below_drew1) | exact HB.out)) hb); clear HO213; clear HO218; clear HB; have HO213 := n0_; have HO218 := n1_; have HO223 := n2_; have HB := n3_; clear n0_ n1_ n2_ n3_; (try clear hb); (try clear hb2); (try clear hk); (try clear hi); (try clear ho0))))
            (try simp only [Act.put, List.setIfInBounds_toArray, List.set_cons_zero, List.set_cons_succ])
            go_cut [53] (fun v53 wc => ∃ (kq : Nat) (x53_12 : Bool), v53 = .bool x53_12 ∧ Aside0 (ridgewaylaw11_LexLines.j1 kq t208 t209 t210 t211 t214 t215 t216 t219 t220 t221 x53_12 = some r) ∧ Aside0 (kq ≤ kj3) ∧ Aside0 (Kd.R k32 32 wc w.heap.size (fun k_ => some k_ ≠ (v217 : Value).ownBlock ∧ some k_ ≠ (v222 : Value).ownBlock) v212 t209) ∧ Aside0 (Kd.R k32 32 wc w.heap.size (fun k_ => some k_ ≠ (v212 : Value).ownBlock ∧ some k_ ≠ (v222 : Value).ownBlock) v217 t214) ∧ Aside0 (Kd.R k32 32 wc w.heap.size (fun k_ => some k_ ≠ (v212 : Value).ownBlock ∧ some k_ ≠ (v217 : Value).ownBlock) v222 t219) ∧ Aside0 (Below w.heap.size w wc))
            case first =>
             as_aux_lemma =>
              have H := HC13.out
              clear HC13
              by_cases c17 : t211 = 0
              · rw [if_pos c17] at H
                have c17b0 : (t211 == 0) = true := beq_iff_eq.mpr c17
                have c17b1 : (t211 != 0) = false := bne_eq_false_iff_eq.mpr c17
                clear c17
                (first | (rw [c17b0]; skip) | skip)
                have H' := Aside0.mk H
                clear H
                go_wp2
                repeat (go_quiet (fail); try go_wp2)
                go_meet
                case rel => exact ⟨_, ((t216 != 0)), (by first | rfl | (simp; done) | (simp [*]; done)), H', ⟨by have := HJ3.out; first | omega | exact Nat.le_refl _⟩, ⟨by (with_reducible repeat (first | apply Kd.R_alloc | apply Kd.R_drewN | apply Kd.R_drew)); exact Kd.R_mono HO213.out (fun _ hk => ⟨hk.1.2, hk.2⟩)⟩, ⟨by (with_reducible repeat (first | apply Kd.R_alloc | apply Kd.R_drewN | apply Kd.R_drew)); exact Kd.R_mono HO218.out (fun _ hk => ⟨hk.1.2, hk.2⟩)⟩, ⟨by (with_reducible repeat (first | apply Kd.R_alloc | apply Kd.R_drewN | apply Kd.R_drew)); exact Kd.R_mono HO223.out (fun _ hk => ⟨hk.1.2, hk.2⟩)⟩, ⟨by repeat (first | (with_reducible first | exact HB.out | apply below_alloc | apply pw_below_drewN | apply below_drew1) | exact HB.out)⟩⟩
              · rw [if_neg c17] at H
                have c17b0 : (t211 == 0) = false := beq_eq_false_iff_ne.mpr c17
                have c17b1 : (t211 != 0) = true := bne_iff_ne.mpr c17
                (first | (rw [c17b0]; skip) | skip)
                have H' := Aside0.mk H
                clear H
                go_wp2
                repeat (go_quiet (fail); try go_wp2)
                go_meet
                case rel => exact ⟨_, (true), (by first | rfl | (simp; done) | (simp [*]; done)), H', ⟨by have := HJ3.out; first | omega | exact Nat.le_refl _⟩, ⟨by (with_reducible repeat (first | apply Kd.R_alloc | apply Kd.R_drewN | apply Kd.R_drew)); exact Kd.R_mono HO213.out (fun _ hk => ⟨hk.1.2, hk.2⟩)⟩, ⟨by (with_reducible repeat (first | apply Kd.R_alloc | apply Kd.R_drewN | apply Kd.R_drew)); exact Kd.R_mono HO218.out (fun _ hk => ⟨hk.1.2, hk.2⟩)⟩, ⟨by (with_reducible repeat (first | apply Kd.R_alloc | apply Kd.R_drewN | apply Kd.R_drew)); exact Kd.R_mono HO223.out (fun _ hk => ⟨hk.1.2, hk.2⟩)⟩, ⟨by repeat (first | (with_reducible first | exact HB.out | apply below_alloc | apply pw_below_drewN | apply below_drew1) | exact HB.out)⟩⟩
            case rest =>
             as_aux_lemma =>
              clear HC13
              try clear c1
              try clear p2
              try clear c6
              try clear c6b0
              try clear c6b1
              try clear c7
              try clear c8
              try clear c10
              try clear c10b0
              try clear c10b1
              try clear c10b2
              try clear c11
              try clear c11b0
              try clear c11b1
              try clear c11b2
              try clear c17
              try clear c17b0
              try clear c17b1
              try clear p2
              obtain ⟨kq, x53_12, rfl, HA, HJ12, HO_6, HO_9, HO_12, HB⟩ := hcut
              cases kq with
              | zero => exact absurd HA.out (by simp [ridgewaylaw11_LexLines.j1])
              | succ kj12 =>
                have H := HA.out
                clear HA
                simp only [ridgewaylaw11_LexLines.j1] at H
                by_cases c18 : x53_12 = true
                · subst c18
                  have H1 : (if t208 = true then (if t211 = 0 then (if t221 = t216 then (some (t220 == (wrap64 ((wrap64 (t210 + 1)) + t215)))) else (none)) else (if t221 = t211 then (if t220 = t210 then (some true) else (none)) else (none))) else (none)) = some r := by rw [if_pos rfl] at H; exact H
                  clear H
                  have H := H1
                  clear H1
                  by_cases c19 : t208 = true
                  · subst c19
                    have H1 : (if t211 = 0 then (if t221 = t216 then (some (t220 == (wrap64 ((wrap64 (t210 + 1)) + t215)))) else (none)) else (if t221 = t211 then (if t220 = t210 then (some true) else (none)) else (none))) = some r := by rw [if_pos rfl] at H; exact H
                    clear H
                    have H := H1
                    clear H1
                    by_cases c20 : t211 = 0
                    · rw [if_pos c20] at H
                      have c20b0 : (t211 == 0) = true := beq_iff_eq.mpr c20
                      have c20b1 : (t211 != 0) = false := bne_eq_false_iff_eq.mpr c20
                      clear c20
                      by_cases c21 : t221 = t216
                      · rw [if_pos c21] at H
                        have c21b0 : (t221 == t216) = true := beq_iff_eq.mpr c21
                        have c21b1 : (t221 != t216) = false := bne_eq_false_iff_eq.mpr c21
                        clear c21
                        obtain rfl := Option.some.inj H
                        go_wp2
                        repeat (go_quiet (fail); try go_wp2)
                        go_ret
                        exact ⟨by first | rfl | (simp [errW_none, errW_some] <;> rfl) | (simp [*, errW_none, errW_some] <;> rfl), by repeat (first | (with_reducible first | exact HB.out | apply below_alloc | apply pw_below_drewN | apply below_drew1) | exact HB.out)⟩
                      · rw [if_neg c21] at H
                        exact absurd H (by simp)
                    · rw [if_neg c20] at H
                      have c20b0 : (t211 == 0) = false := beq_eq_false_iff_ne.mpr c20
                      have c20b1 : (t211 != 0) = true := bne_iff_ne.mpr c20
                      by_cases c22 : t221 = t211
                      · rw [if_pos c22] at H
                        have c22b0 : (t221 == t211) = true := beq_iff_eq.mpr c22
                        have c22b1 : (t221 != t211) = false := bne_eq_false_iff_eq.mpr c22
                        clear c22
                        by_cases c23 : t220 = t210
                        · rw [if_pos c23] at H
                          have c23b0 : (t220 == t210) = true := beq_iff_eq.mpr c23
                          have c23b1 : (t220 != t210) = false := bne_eq_false_iff_eq.mpr c23
                          clear c23
                          obtain rfl := Option.some.inj H
                          go_wp2
                          repeat (go_quiet (fail); try go_wp2)
                          go_ret
                          exact ⟨by first | rfl | (simp [errW_none, errW_some] <;> rfl) | (simp [*, errW_none, errW_some] <;> rfl), by repeat (first | (with_reducible first | exact HB.out | apply below_alloc | apply pw_below_drewN | apply below_drew1) | exact HB.out)⟩
                        · rw [if_neg c23] at H
                          exact absurd H (by simp)
                      · rw [if_neg c22] at H
                        exact absurd H (by simp)
                  · replace c19 := Bool.eq_false_iff.mpr c19
                    subst c19
                    have H1 : (none) = some r := by rw [if_neg (show ¬ (false = true) by decide)] at H; exact H
                    clear H
                    have H := H1
                    clear H1
                    exact absurd H (by simp)
                · replace c18 := Bool.eq_false_iff.mpr c18
                  subst c18
                  have H1 : (if t221 = 0 then (if t220 = (wrap64 ((wrap64 (t210 + 1)) + t215)) then (if (t219.length : Int) = (wrap64 ((t209.length : Int) + (t214.length : Int))) then (ridgewaylaw11_LexLines.j2 kj12 t208 t209 t210 t214 t219 ((t209.length : Int) == 0)) else (ridgewaylaw11_LexLines.j2 kj12 t208 t209 t210 t214 t219 true)) else (ridgewaylaw11_LexLines.j2 kj12 t208 t209 t210 t214 t219 true)) else (ridgewaylaw11_LexLines.j2 kj12 t208 t209 t210 t214 t219 true)) = some r := by rw [if_neg (show ¬ (false = true) by decide)] at H; exact H
                  clear H
                  have H := H1
                  clear H1
                  have HC24 := Aside0.mk H
                  clear H
                  go_upto_region 9 with (fail)
                  repeat (go_quiet (fail); go_upto_region 9 with (fail))
                  go_cut [110] (fun v110 wc => ∃ (kq : Nat) (x110_23 : Bool), v110 = .bool x110_23 ∧ Aside0 (ridgewaylaw11_LexLines.j2 kq t208 t209 t210 t214 t219 x110_23 = some r) ∧ Aside0 (kq ≤ kj12) ∧ Aside0 (Kd.R k32 32 wc w.heap.size (fun k_ => some k_ ≠ (v217 : Value).ownBlock ∧ some k_ ≠ (v222 : Value).ownBlock) v212 t209) ∧ Aside0 (Kd.R k32 32 wc w.heap.size (fun k_ => some k_ ≠ (v212 : Value).ownBlock ∧ some k_ ≠ (v222 : Value).ownBlock) v217 t214) ∧ Aside0 (Kd.R k32 32 wc w.heap.size (fun k_ => some k_ ≠ (v212 : Value).ownBlock ∧ some k_ ≠ (v217 : Value).ownBlock) v222 t219) ∧ Aside0 (Below w.heap.size w wc))
                  case first =>
                   as_aux_lemma =>
                    have H := HC24.out
                    clear HC24
                    by_cases c25 : t221 = 0
                    · rw [if_pos c25] at H
                      have c25b0 : (t221 == 0) = true := beq_iff_eq.mpr c25
                      have c25b1 : (t221 != 0) = false := bne_eq_false_iff_eq.mpr c25
                      clear c25
                      (first | (rw [c25b0]; skip) | skip)
                      by_cases c26 : t220 = (wrap64 ((wrap64 (t210 + 1)) + t215))
                      · rw [if_pos c26] at H
                        have c26b0 : (t220 == (wrap64 ((wrap64 (t210 + 1)) + t215))) = true := beq_iff_eq.mpr c26
                        have c26b1 : (t220 != (wrap64 ((wrap64 (t210 + 1)) + t215))) = false := bne_eq_false_iff_eq.mpr c26
                        clear c26
                        by_cases c27 : (t219.length : Int) = (wrap64 ((t209.length : Int) + (t214.length : Int)))
                        · rw [if_pos c27] at H
                          have c27b0 : ((t219.length : Int) == (wrap64 ((t209.length : Int) + (t214.length : Int)))) = true := beq_iff_eq.mpr c27
                          have c27b1 : ((t219.length : Int) != (wrap64 ((t209.length : Int) + (t214.length : Int)))) = false := bne_eq_false_iff_eq.mpr c27
                          clear c27
                          have H' := Aside0.mk H
                          clear H
                          obtain ⟨Ao28, co28, eo28⟩ := Kd.R_slice HO_12.out
                          subst eo28
                          obtain ⟨Ao29, co29, eo29⟩ := Kd.R_slice HO_6.out
                          subst eo29
                          obtain ⟨Ao30, co30, eo30⟩ := Kd.R_slice HO_9.out
                          subst eo30
                          go_wp2
                          repeat (go_quiet (fail); try go_wp2)
                          go_meet
                          case rel => exact ⟨_, (((t209.length : Int) == 0)), (by first | rfl | (simp; done) | (simp [*]; done)), H', ⟨by have := HJ3.out; have := HJ12.out; first | omega | exact Nat.le_refl _⟩, ⟨by (with_reducible repeat (first | apply Kd.R_alloc | apply Kd.R_drewN | apply Kd.R_drew)); exact HO_6.out⟩, ⟨by (with_reducible repeat (first | apply Kd.R_alloc | apply Kd.R_drewN | apply Kd.R_drew)); exact HO_9.out⟩, ⟨by (with_reducible repeat (first | apply Kd.R_alloc | apply Kd.R_drewN | apply Kd.R_drew)); exact HO_12.out⟩, ⟨by repeat (first | (with_reducible first | exact HB.out | apply below_alloc | apply pw_below_drewN | apply below_drew1) | exact HB.out)⟩⟩
                        · rw [if_neg c27] at H
                          have c27b0 : ((t219.length : Int) == (wrap64 ((t209.length : Int) + (t214.length : Int)))) = false := beq_eq_false_iff_ne.mpr c27
                          have c27b1 : ((t219.length : Int) != (wrap64 ((t209.length : Int) + (t214.length : Int)))) = true := bne_iff_ne.mpr c27
                          have H' := Aside0.mk H
                          clear H
                          obtain ⟨Ao31, co31, eo31⟩ := Kd.R_slice HO_12.out
                          subst eo31
                          obtain ⟨Ao32, co32, eo32⟩ := Kd.R_slice HO_6.out
                          subst eo32
                          obtain ⟨Ao33, co33, eo33⟩ := Kd.R_slice HO_9.out
                          subst eo33
                          go_wp2
                          repeat (go_quiet (fail); try go_wp2)
                          go_meet
                          case rel => exact ⟨_, (true), (by first | rfl | (simp; done) | (simp [*]; done)), H', ⟨by have := HJ3.out; have := HJ12.out; first | omega | exact Nat.le_refl _⟩, ⟨by (with_reducible repeat (first | apply Kd.R_alloc | apply Kd.R_drewN | apply Kd.R_drew)); exact HO_6.out⟩, ⟨by (with_reducible repeat (first | apply Kd.R_alloc | apply Kd.R_drewN | apply Kd.R_drew)); exact HO_9.out⟩, ⟨by (with_reducible repeat (first | apply Kd.R_alloc | apply Kd.R_drewN | apply Kd.R_drew)); exact HO_12.out⟩, ⟨by repeat (first | (with_reducible first | exact HB.out | apply below_alloc | apply pw_below_drewN | apply below_drew1) | exact HB.out)⟩⟩
                      · rw [if_neg c26] at H
                        have c26b0 : (t220 == (wrap64 ((wrap64 (t210 + 1)) + t215))) = false := beq_eq_false_iff_ne.mpr c26
                        have c26b1 : (t220 != (wrap64 ((wrap64 (t210 + 1)) + t215))) = true := bne_iff_ne.mpr c26
                        have H' := Aside0.mk H
                        clear H
                        go_wp2
                        repeat (go_quiet (fail); try go_wp2)
                        go_meet
                        case rel => exact ⟨_, (true), (by first | rfl | (simp; done) | (simp [*]; done)), H', ⟨by have := HJ3.out; have := HJ12.out; first | omega | exact Nat.le_refl _⟩, ⟨by (with_reducible repeat (first | apply Kd.R_alloc | apply Kd.R_drewN | apply Kd.R_drew)); exact HO_6.out⟩, ⟨by (with_reducible repeat (first | apply Kd.R_alloc | apply Kd.R_drewN | apply Kd.R_drew)); exact HO_9.out⟩, ⟨by (with_reducible repeat (first | apply Kd.R_alloc | apply Kd.R_drewN | apply Kd.R_drew)); exact HO_12.out⟩, ⟨by repeat (first | (with_reducible first | exact HB.out | apply below_alloc | apply pw_below_drewN | apply below_drew1) | exact HB.out)⟩⟩
                    · rw [if_neg c25] at H
                      have c25b0 : (t221 == 0) = false := beq_eq_false_iff_ne.mpr c25
                      have c25b1 : (t221 != 0) = true := bne_iff_ne.mpr c25
                      (first | (rw [c25b0]; skip) | skip)
                      have H' := Aside0.mk H
                      clear H
                      go_wp2
                      repeat (go_quiet (fail); try go_wp2)
                      go_meet
                      case rel => exact ⟨_, (true), (by first | rfl | (simp; done) | (simp [*]; done)), H', ⟨by have := HJ3.out; have := HJ12.out; first | omega | exact Nat.le_refl _⟩, ⟨by (with_reducible repeat (first | apply Kd.R_alloc | apply Kd.R_drewN | apply Kd.R_drew)); exact HO_6.out⟩, ⟨by (with_reducible repeat (first | apply Kd.R_alloc | apply Kd.R_drewN | apply Kd.R_drew)); exact HO_9.out⟩, ⟨by (with_reducible repeat (first | apply Kd.R_alloc | apply Kd.R_drewN | apply Kd.R_drew)); exact HO_12.out⟩, ⟨by repeat (first | (with_reducible first | exact HB.out | apply below_alloc | apply pw_below_drewN | apply below_drew1) | exact HB.out)⟩⟩
                  case rest =>
                   as_aux_lemma =>
                    clear HC24
                    try clear c1
                    try clear c2
                    try clear p2
                    try clear c6
                    try clear c6b0
                    try clear c6b1
                    try clear p6
                    try clear c7
                    try clear c8
                    try clear c10
                    try clear c10b0
                    try clear c10b1
                    try clear c10b2
                    try clear c11
                    try clear c11b0
                    try clear c11b1
                    try clear c11b2
                    try clear c17
                    try clear c17b0
                    try clear c17b1
                    try clear c18
                    try clear c19
                    try clear c20
                    try clear c20b0
                    try clear c20b1
                    try clear c21
                    try clear c21b0
                    try clear c21b1
                    try clear c22
                    try clear c22b0
                    try clear c22b1
                    try clear c23
                    try clear c23b0
                    try clear c23b1
                    try clear c25
                    try clear c25b0
                    try clear c25b1
                    try clear c26
                    try clear c26b0
                    try clear c26b1
                    try clear c27
                    try clear c27b0
                    try clear c27b1
                    try clear p2
                    obtain ⟨kq, x110_23, rfl, HA, HJ23, HO_6, HO_9, HO_12, HB⟩ := hcut
                    cases kq with
                    | zero => exact absurd HA.out (by simp [ridgewaylaw11_LexLines.j2])
                    | succ kj23 =>
                      have H := HA.out
                      clear HA
                      simp only [ridgewaylaw11_LexLines.j2] at H
                      by_cases c34 : x110_23 = true
                      · subst c34
                        have H1 : (none) = some r := by rw [if_pos rfl] at H; exact H
                        clear H
                        have H := H1
                        clear H1
                        exact absurd H (by simp)
                      · replace c34 := Bool.eq_false_iff.mpr c34
                        subst c34
                        have H1 : (ridgewaylaw11_LexLines.l0 kj23 t208 t209 t210 t214 t219 0) = some r := by rw [if_neg (show ¬ (false = true) by decide)] at H; exact H
                        clear H
                        have H := H1
                        clear H1
                        have H' := Aside0.mk H
                        clear H
                        go_wp2
                        repeat (go_quiet (fail); try go_wp2)
                        go_loopg [15] kj23 (fun kq v15 w' => ∃ (x15_4 : Int), v15 = .int .i64 x15_4 ∧ Aside0 (ridgewaylaw11_LexLines.l0 kq t208 t209 t210 t214 t219 x15_4 = some r) ∧ Aside0 (kq ≤ kj23) ∧ Aside0 (Kd.R k32 32 w' w.heap.size (fun k_ => some k_ ≠ (v217 : Value).ownBlock ∧ some k_ ≠ (v222 : Value).ownBlock) v212 t209) ∧ Aside0 (Kd.R k32 32 w' w.heap.size (fun k_ => some k_ ≠ (v212 : Value).ownBlock ∧ some k_ ≠ (v222 : Value).ownBlock) v217 t214) ∧ Aside0 (Kd.R k32 32 w' w.heap.size (fun k_ => some k_ ≠ (v212 : Value).ownBlock ∧ some k_ ≠ (v217 : Value).ownBlock) v222 t219) ∧ Aside0 (Below w.heap.size w w'))
                        case atStart => exact ⟨(0), (by first | rfl | (simp; done) | (simp [*]; done)), H', ⟨Nat.le_refl _⟩, ⟨by (with_reducible repeat (first | apply Kd.R_alloc | apply Kd.R_drewN | apply Kd.R_drew)); exact HO_6.out⟩, ⟨by (with_reducible repeat (first | apply Kd.R_alloc | apply Kd.R_drewN | apply Kd.R_drew)); exact HO_9.out⟩, ⟨by (with_reducible repeat (first | apply Kd.R_alloc | apply Kd.R_drewN | apply Kd.R_drew)); exact HO_12.out⟩, ⟨by repeat (first | (with_reducible first | exact HB.out | apply below_alloc | apply pw_below_drewN | apply below_drew1) | exact HB.out)⟩⟩
                        case round =>
                          clear H'
                          try clear c1
                          try clear c2
                          try clear p2
                          try clear c3
                          try clear c6
                          try clear c6b0
                          try clear c6b1
                          try clear p6
                          try clear c7
                          try clear c8
                          try clear c10
                          try clear c10b0
                          try clear c10b1
                          try clear c10b2
                          try clear c11
                          try clear c11b0
                          try clear c11b1
                          try clear c11b2
                          try clear c17
                          try clear c17b0
                          try clear c17b1
                          try clear c18
                          try clear c19
                          try clear c20
                          try clear c20b0
                          try clear c20b1
                          try clear c21
                          try clear c21b0
                          try clear c21b1
                          try clear c22
                          try clear c22b0
                          try clear c22b1
                          try clear c23
                          try clear c23b0
                          try clear c23b1
                          try clear c25
                          try clear c25b0
                          try clear c25b1
                          try clear c26
                          try clear c26b0
                          try clear c26b1
                          try clear c27
                          try clear c27b0
                          try clear c27b1
                          try clear c34
                          try clear p2
                          try clear p6
                          obtain ⟨x15_4, rfl, HA, HK4, HO_6, HO_9, HO_12, HB⟩ := hrel
                          cases gk with
                          | zero => exact absurd HA.out (by simp [ridgewaylaw11_LexLines.l0])
                          | succ k4 =>
                            have H := HA.out
                            clear HA
                            simp only [ridgewaylaw11_LexLines.l0] at H
                            by_cases c35 : x15_4 < (t219.length : Int)
                            · rw [if_pos c35] at H
                              have c35b0 : decide (x15_4 < (t219.length : Int)) = true := decide_eq_true c35
                              clear c35
                              have HC36 := Aside0.mk H
                              clear H
                              obtain ⟨Ao37, co37, eo37⟩ := Kd.R_slice HO_12.out
                              subst eo37
                              go_upto_region 14 with (fail)
                              repeat (go_quiet (fail); go_upto_region 14 with (fail))
                              go_cut [156] (fun v156 wc => ∃ (kq : Nat) (x156_35 : Bool), v156 = .bool x156_35 ∧ Aside0 (ridgewaylaw11_LexLines.j4 kq t208 t209 t210 t214 t219 x15_4 x156_35 = some r) ∧ Aside0 (kq ≤ k4) ∧ Aside0 (Kd.R k32 32 wc w.heap.size (fun k_ => some k_ ≠ (v217 : Value).ownBlock ∧ some k_ ≠ ((.slice Ao37 t219.length co37) : Value).ownBlock) v212 t209) ∧ Aside0 (Kd.R k32 32 wc w.heap.size (fun k_ => some k_ ≠ (v212 : Value).ownBlock ∧ some k_ ≠ ((.slice Ao37 t219.length co37) : Value).ownBlock) v217 t214) ∧ Aside0 (Kd.R k32 32 wc w.heap.size (fun k_ => some k_ ≠ (v212 : Value).ownBlock ∧ some k_ ≠ (v217 : Value).ownBlock) (.slice Ao37 t219.length co37) t219) ∧ Aside0 (Below w.heap.size w wc))
                              case first =>
                               as_aux_lemma =>
                                have H := HC36.out
                                clear HC36
                                by_cases c38 : x15_4 < (wrap64 ((t209.length : Int) - 1))
                                · rw [if_pos c38] at H
                                  have c38b0 : decide (x15_4 < (wrap64 ((t209.length : Int) - 1))) = true := decide_eq_true c38
                                  clear c38
                                  (first | (rw [c38b0]; skip) | (simp only [i64_w, i32_w]; rw [c38b0]; skip) | (have cw_ := c38b0; simp only [gt_iff_lt, ge_iff_le, Int.natCast_pos] at cw_; rw [cw_]; clear cw_; skip) | skip)
                                  by_cases c39 : 0 ≤ x15_4
                                  · rw [if_pos c39] at H
                                    have c39b0 : decide (0 ≤ x15_4) = true := decide_eq_true c39
                                    clear c39
                                    by_cases c40 : x15_4 < (t209.length : Int)
                                    · rw [if_pos c40] at H
                                      have c40b0 : decide (x15_4 < (t209.length : Int)) = true := decide_eq_true c40
                                      clear c40
                                      by_cases c41 : (!(((rd_T32 t219 x15_4).f0) == ((rd_T32 t209 x15_4).f0)) || (!(((rd_T32 t219 x15_4).f1) == ((rd_T32 t209 x15_4).f1)) || (!((((rd_T32 t219 x15_4).f2).toList) == (((rd_T32 t209 x15_4).f2).toList))))) = true
                                      · rw [if_pos c41] at H
                                        have c41b0 : (!(((rd_T32 t219 x15_4).f0) == ((rd_T32 t209 x15_4).f0)) || (!(((rd_T32 t219 x15_4).f1) == ((rd_T32 t209 x15_4).f1)) || (!((((rd_T32 t219 x15_4).f2).toList) == (((rd_T32 t209 x15_4).f2).toList))))) = true := c41
                                        clear c41
                                        have H' := Aside0.mk H
                                        clear H
                                        obtain ⟨Ao42, co42, eo42⟩ := Kd.R_slice HO_6.out
                                        subst eo42
                                        have p224 : 0 ≤ (x15_4 : Int) := of_decide_eq_true (by first | (with_reducible assumption) | assumption)
                                        have q224 : x15_4 < (t219.length : Int) := of_decide_eq_true (by first | (with_reducible assumption) | assumption)
                                        obtain ⟨ad224, e224, hx224_0, hx224_1, hx224_2⟩ := at_T32 (Kd.R_reads' HO_12.out).2.2 x15_4 p224 q224
                                        cases e224
                                        replace p224 := eq_true p224
                                        replace q224 := eq_true q224
                                        have p225 : 0 ≤ (x15_4 : Int) := of_decide_eq_true (by first | (with_reducible assumption) | assumption)
                                        have q225 : x15_4 < (t209.length : Int) := of_decide_eq_true (by first | (with_reducible assumption) | assumption)
                                        obtain ⟨ad225, e225, hx225_0, hx225_1, hx225_2⟩ := at_T32 (Kd.R_reads' HO_6.out).2.2 x15_4 p225 q225
                                        cases e225
                                        replace p225 := eq_true p225
                                        replace q225 := eq_true q225
                                        go_wp2
                                        repeat (go_quiet (fail); try go_wp2)
                                        go_meet
                                        case rel => exact ⟨_, (true), (by first | rfl | (simp; done) | (simp [*]; done)), H', ⟨by have := HJ3.out; have := HJ12.out; have := HJ23.out; have := HK4.out; first | omega | exact Nat.le_refl _⟩, ⟨by (with_reducible repeat (first | apply Kd.R_alloc | apply Kd.R_drewN | apply Kd.R_drew)); exact HO_6.out⟩, ⟨by (with_reducible repeat (first | apply Kd.R_alloc | apply Kd.R_drewN | apply Kd.R_drew)); exact HO_9.out⟩, ⟨by (with_reducible repeat (first | apply Kd.R_alloc | apply Kd.R_drewN | apply Kd.R_drew)); exact HO_12.out⟩, ⟨by repeat (first | (with_reducible first | exact HB.out | apply below_alloc | apply pw_below_drewN | apply below_drew1) | exact HB.out)⟩⟩
                                      · rw [if_neg c41] at H
                                        have c41b0 : (!(((rd_T32 t219 x15_4).f0) == ((rd_T32 t209 x15_4).f0)) || (!(((rd_T32 t219 x15_4).f1) == ((rd_T32 t209 x15_4).f1)) || (!((((rd_T32 t219 x15_4).f2).toList) == (((rd_T32 t209 x15_4).f2).toList))))) = false := by simpa using c41
                                        clear c41
                                        by_cases c43 : x15_4 = (wrap64 ((t209.length : Int) - 1))
                                        · rw [if_pos c43] at H
                                          have c43b0 : (x15_4 == (wrap64 ((t209.length : Int) - 1))) = true := beq_iff_eq.mpr c43
                                          have c43b1 : (x15_4 != (wrap64 ((t209.length : Int) - 1))) = false := bne_eq_false_iff_eq.mpr c43
                                          clear c43
                                          by_cases c44 : ((rd_T32 t219 x15_4).f0) = 1
                                          · rw [if_pos c44] at H
                                            have c44b0 : (((rd_T32 t219 x15_4).f0) == 1) = true := beq_iff_eq.mpr c44
                                            have c44b1 : (((rd_T32 t219 x15_4).f0) != 1) = false := bne_eq_false_iff_eq.mpr c44
                                            clear c44
                                            have H' := Aside0.mk H
                                            clear H
                                            obtain ⟨Ao45, co45, eo45⟩ := Kd.R_slice HO_6.out
                                            subst eo45
                                            have p224 : 0 ≤ (x15_4 : Int) := of_decide_eq_true (by first | (with_reducible assumption) | assumption)
                                            have q224 : x15_4 < (t219.length : Int) := of_decide_eq_true (by first | (with_reducible assumption) | assumption)
                                            obtain ⟨ad224, e224, hx224_0, hx224_1, hx224_2⟩ := at_T32 (Kd.R_reads' HO_12.out).2.2 x15_4 p224 q224
                                            cases e224
                                            replace p224 := eq_true p224
                                            replace q224 := eq_true q224
                                            have p225 : 0 ≤ (x15_4 : Int) := of_decide_eq_true (by first | (with_reducible assumption) | assumption)
                                            have q225 : x15_4 < (t209.length : Int) := of_decide_eq_true (by first | (with_reducible assumption) | assumption)
                                            obtain ⟨ad225, e225, hx225_0, hx225_1, hx225_2⟩ := at_T32 (Kd.R_reads' HO_6.out).2.2 x15_4 p225 q225
                                            cases e225
                                            replace p225 := eq_true p225
                                            replace q225 := eq_true q225
                                            have p226 : 0 ≤ (x15_4 : Int) := of_decide_eq_true (by first | (with_reducible assumption) | assumption)
                                            have q226 : x15_4 < (t219.length : Int) := of_decide_eq_true (by first | (with_reducible assumption) | assumption)
                                            obtain ⟨ad226, e226, hx226_0, hx226_1, hx226_2⟩ := at_T32 (Kd.R_reads' HO_12.out).2.2 x15_4 p226 q226
                                            obtain rfl : ad224 = ad226 := (by injection e226)
                                            replace p226 := eq_true p226
                                            replace q226 := eq_true q226
                                            have p227 : 0 ≤ (x15_4 : Int) := of_decide_eq_true (by first | (with_reducible assumption) | assumption)
                                            have q227 : x15_4 < (t219.length : Int) := of_decide_eq_true (by first | (with_reducible assumption) | assumption)
                                            obtain ⟨ad227, e227, hx227_0, hx227_1, hx227_2⟩ := at_T32 (Kd.R_reads' HO_12.out).2.2 x15_4 p227 q227
                                            obtain rfl : ad224 = ad227 := (by injection e227)
                                            replace p227 := eq_true p227
                                            replace q227 := eq_true q227
                                            go_wp2
                                            repeat (go_quiet (fail); try go_wp2)
                                            go_meet
                                            case rel => exact ⟨_, ((((rd_T32 t219 x15_4).f1) != t210)), (by first | rfl | (simp; done) | (simp [*]; done)), H', ⟨by have := HJ3.out; have := HJ12.out; have := HJ23.out; have := HK4.out; first | omega | exact Nat.le_refl _⟩, ⟨by (with_reducible repeat (first | apply Kd.R_alloc | apply Kd.R_drewN | apply Kd.R_drew)); exact HO_6.out⟩, ⟨by (with_reducible repeat (first | apply Kd.R_alloc | apply Kd.R_drewN | apply Kd.R_drew)); exact HO_9.out⟩, ⟨by (with_reducible repeat (first | apply Kd.R_alloc | apply Kd.R_drewN | apply Kd.R_drew)); exact HO_12.out⟩, ⟨by repeat (first | (with_reducible first | exact HB.out | apply below_alloc | apply pw_below_drewN | apply below_drew1) | exact HB.out)⟩⟩
                                          · rw [if_neg c44] at H
                                            have c44b0 : (((rd_T32 t219 x15_4).f0) == 1) = false := beq_eq_false_iff_ne.mpr c44
                                            have c44b1 : (((rd_T32 t219 x15_4).f0) != 1) = true := bne_iff_ne.mpr c44
                                            have H' := Aside0.mk H
                                            clear H
                                            obtain ⟨Ao46, co46, eo46⟩ := Kd.R_slice HO_6.out
                                            subst eo46
                                            have p224 : 0 ≤ (x15_4 : Int) := of_decide_eq_true (by first | (with_reducible assumption) | assumption)
                                            have q224 : x15_4 < (t219.length : Int) := of_decide_eq_true (by first | (with_reducible assumption) | assumption)
                                            obtain ⟨ad224, e224, hx224_0, hx224_1, hx224_2⟩ := at_T32 (Kd.R_reads' HO_12.out).2.2 x15_4 p224 q224
                                            cases e224
                                            replace p224 := eq_true p224
                                            replace q224 := eq_true q224
                                            have p225 : 0 ≤ (x15_4 : Int) := of_decide_eq_true (by first | (with_reducible assumption) | assumption)
                                            have q225 : x15_4 < (t209.length : Int) := of_decide_eq_true (by first | (with_reducible assumption) | assumption)
                                            obtain ⟨ad225, e225, hx225_0, hx225_1, hx225_2⟩ := at_T32 (Kd.R_reads' HO_6.out).2.2 x15_4 p225 q225
                                            cases e225
                                            replace p225 := eq_true p225
                                            replace q225 := eq_true q225
                                            have p226 : 0 ≤ (x15_4 : Int) := of_decide_eq_true (by first | (with_reducible assumption) | assumption)
                                            have q226 : x15_4 < (t219.length : Int) := of_decide_eq_true (by first | (with_reducible assumption) | assumption)
                                            obtain ⟨ad226, e226, hx226_0, hx226_1, hx226_2⟩ := at_T32 (Kd.R_reads' HO_12.out).2.2 x15_4 p226 q226
                                            obtain rfl : ad224 = ad226 := (by injection e226)
                                            replace p226 := eq_true p226
                                            replace q226 := eq_true q226
                                            go_wp2
                                            repeat (go_quiet (fail); try go_wp2)
                                            go_meet
                                            case rel => exact ⟨_, (true), (by first | rfl | (simp; done) | (simp [*]; done)), H', ⟨by have := HJ3.out; have := HJ12.out; have := HJ23.out; have := HK4.out; first | omega | exact Nat.le_refl _⟩, ⟨by (with_reducible repeat (first | apply Kd.R_alloc | apply Kd.R_drewN | apply Kd.R_drew)); exact HO_6.out⟩, ⟨by (with_reducible repeat (first | apply Kd.R_alloc | apply Kd.R_drewN | apply Kd.R_drew)); exact HO_9.out⟩, ⟨by (with_reducible repeat (first | apply Kd.R_alloc | apply Kd.R_drewN | apply Kd.R_drew)); exact HO_12.out⟩, ⟨by repeat (first | (with_reducible first | exact HB.out | apply below_alloc | apply pw_below_drewN | apply below_drew1) | exact HB.out)⟩⟩
                                        · rw [if_neg c43] at H
                                          have c43b0 : (x15_4 == (wrap64 ((t209.length : Int) - 1))) = false := beq_eq_false_iff_ne.mpr c43
                                          have c43b1 : (x15_4 != (wrap64 ((t209.length : Int) - 1))) = true := bne_iff_ne.mpr c43
                                          have H' := Aside0.mk H
                                          clear H
                                          obtain ⟨Ao47, co47, eo47⟩ := Kd.R_slice HO_6.out
                                          subst eo47
                                          have p224 : 0 ≤ (x15_4 : Int) := of_decide_eq_true (by first | (with_reducible assumption) | assumption)
                                          have q224 : x15_4 < (t219.length : Int) := of_decide_eq_true (by first | (with_reducible assumption) | assumption)
                                          obtain ⟨ad224, e224, hx224_0, hx224_1, hx224_2⟩ := at_T32 (Kd.R_reads' HO_12.out).2.2 x15_4 p224 q224
                                          cases e224
                                          replace p224 := eq_true p224
                                          replace q224 := eq_true q224
                                          have p225 : 0 ≤ (x15_4 : Int) := of_decide_eq_true (by first | (with_reducible assumption) | assumption)
                                          have q225 : x15_4 < (t209.length : Int) := of_decide_eq_true (by first | (with_reducible assumption) | assumption)
                                          obtain ⟨ad225, e225, hx225_0, hx225_1, hx225_2⟩ := at_T32 (Kd.R_reads' HO_6.out).2.2 x15_4 p225 q225
                                          cases e225
                                          replace p225 := eq_true p225
                                          replace q225 := eq_true q225
                                          go_wp2
                                          repeat (go_quiet (fail); try go_wp2)
                                          go_meet
                                          case rel => exact ⟨_, (false), (by first | rfl | (simp; done) | (simp [*]; done)), H', ⟨by have := HJ3.out; have := HJ12.out; have := HJ23.out; have := HK4.out; first | omega | exact Nat.le_refl _⟩, ⟨by (with_reducible repeat (first | apply Kd.R_alloc | apply Kd.R_drewN | apply Kd.R_drew)); exact HO_6.out⟩, ⟨by (with_reducible repeat (first | apply Kd.R_alloc | apply Kd.R_drewN | apply Kd.R_drew)); exact HO_9.out⟩, ⟨by (with_reducible repeat (first | apply Kd.R_alloc | apply Kd.R_drewN | apply Kd.R_drew)); exact HO_12.out⟩, ⟨by repeat (first | (with_reducible first | exact HB.out | apply below_alloc | apply pw_below_drewN | apply below_drew1) | exact HB.out)⟩⟩
                                    · rw [if_neg c40] at H
                                      exact absurd H (by simp)
                                  · rw [if_neg c39] at H
                                    exact absurd H (by simp)
                                · rw [if_neg c38] at H
                                  have c38b0 : decide (x15_4 < (wrap64 ((t209.length : Int) - 1))) = false := decide_eq_false c38
                                  clear c38
                                  (first | (rw [c38b0]; skip) | (simp only [i64_w, i32_w]; rw [c38b0]; skip) | (have cw_ := c38b0; simp only [gt_iff_lt, ge_iff_le, Int.natCast_pos] at cw_; rw [cw_]; clear cw_; skip) | skip)
                                  by_cases c48 : x15_4 = (wrap64 ((t209.length : Int) - 1))
                                  · rw [if_pos c48] at H
                                    have c48b0 : (x15_4 == (wrap64 ((t209.length : Int) - 1))) = true := beq_iff_eq.mpr c48
                                    have c48b1 : (x15_4 != (wrap64 ((t209.length : Int) - 1))) = false := bne_eq_false_iff_eq.mpr c48
                                    clear c48
                                    by_cases c49 : 0 ≤ x15_4
                                    · rw [if_pos c49] at H
                                      have c49b0 : decide (0 ≤ x15_4) = true := decide_eq_true c49
                                      clear c49
                                      by_cases c50 : ((rd_T32 t219 x15_4).f0) = 1
                                      · rw [if_pos c50] at H
                                        have c50b0 : (((rd_T32 t219 x15_4).f0) == 1) = true := beq_iff_eq.mpr c50
                                        have c50b1 : (((rd_T32 t219 x15_4).f0) != 1) = false := bne_eq_false_iff_eq.mpr c50
                                        clear c50
                                        have H' := Aside0.mk H
                                        clear H
                                        obtain ⟨Ao51, co51, eo51⟩ := Kd.R_slice HO_6.out
                                        subst eo51
                                        have p228 : 0 ≤ (x15_4 : Int) := of_decide_eq_true (by first | (with_reducible assumption) | assumption)
                                        have q228 : x15_4 < (t219.length : Int) := of_decide_eq_true (by first | (with_reducible assumption) | assumption)
                                        obtain ⟨ad228, e228, hx228_0, hx228_1, hx228_2⟩ := at_T32 (Kd.R_reads' HO_12.out).2.2 x15_4 p228 q228
                                        cases e228
                                        replace p228 := eq_true p228
                                        replace q228 := eq_true q228
                                        have p229 : 0 ≤ (x15_4 : Int) := of_decide_eq_true (by first | (with_reducible assumption) | assumption)
                                        have q229 : x15_4 < (t219.length : Int) := of_decide_eq_true (by first | (with_reducible assumption) | assumption)
                                        obtain ⟨ad229, e229, hx229_0, hx229_1, hx229_2⟩ := at_T32 (Kd.R_reads' HO_12.out).2.2 x15_4 p229 q229
                                        obtain rfl : ad228 = ad229 := (by injection e229)
                                        replace p229 := eq_true p229
                                        replace q229 := eq_true q229
                                        go_wp2
                                        repeat (go_quiet (fail); try go_wp2)
                                        go_meet
                                        case rel => exact ⟨_, ((((rd_T32 t219 x15_4).f1) != t210)), (by first | rfl | (simp; done) | (simp [*]; done)), H', ⟨by have := HJ3.out; have := HJ12.out; have := HJ23.out; have := HK4.out; first | omega | exact Nat.le_refl _⟩, ⟨by (with_reducible repeat (first | apply Kd.R_alloc | apply Kd.R_drewN | apply Kd.R_drew)); exact HO_6.out⟩, ⟨by (with_reducible repeat (first | apply Kd.R_alloc | apply Kd.R_drewN | apply Kd.R_drew)); exact HO_9.out⟩, ⟨by (with_reducible repeat (first | apply Kd.R_alloc | apply Kd.R_drewN | apply Kd.R_drew)); exact HO_12.out⟩, ⟨by repeat (first | (with_reducible first | exact HB.out | apply below_alloc | apply pw_below_drewN | apply below_drew1) | exact HB.out)⟩⟩
                                      · rw [if_neg c50] at H
                                        have c50b0 : (((rd_T32 t219 x15_4).f0) == 1) = false := beq_eq_false_iff_ne.mpr c50
                                        have c50b1 : (((rd_T32 t219 x15_4).f0) != 1) = true := bne_iff_ne.mpr c50
                                        have H' := Aside0.mk H
                                        clear H
                                        obtain ⟨Ao52, co52, eo52⟩ := Kd.R_slice HO_6.out
                                        subst eo52
                                        have p228 : 0 ≤ (x15_4 : Int) := of_decide_eq_true (by first | (with_reducible assumption) | assumption)
                                        have q228 : x15_4 < (t219.length : Int) := of_decide_eq_true (by first | (with_reducible assumption) | assumption)
                                        obtain ⟨ad228, e228, hx228_0, hx228_1, hx228_2⟩ := at_T32 (Kd.R_reads' HO_12.out).2.2 x15_4 p228 q228
                                        cases e228
                                        replace p228 := eq_true p228
                                        replace q228 := eq_true q228
                                        go_wp2
                                        repeat (go_quiet (fail); try go_wp2)
                                        go_meet
                                        case rel => exact ⟨_, (true), (by first | rfl | (simp; done) | (simp [*]; done)), H', ⟨by have := HJ3.out; have := HJ12.out; have := HJ23.out; have := HK4.out; first | omega | exact Nat.le_refl _⟩, ⟨by (with_reducible repeat (first | apply Kd.R_alloc | apply Kd.R_drewN | apply Kd.R_drew)); exact HO_6.out⟩, ⟨by (with_reducible repeat (first | apply Kd.R_alloc | apply Kd.R_drewN | apply Kd.R_drew)); exact HO_9.out⟩, ⟨by (with_reducible repeat (first | apply Kd.R_alloc | apply Kd.R_drewN | apply Kd.R_drew)); exact HO_12.out⟩, ⟨by repeat (first | (with_reducible first | exact HB.out | apply below_alloc | apply pw_below_drewN | apply below_drew1) | exact HB.out)⟩⟩
                                    · rw [if_neg c49] at H
                                      exact absurd H (by simp)
                                  · rw [if_neg c48] at H
                                    have c48b0 : (x15_4 == (wrap64 ((t209.length : Int) - 1))) = false := beq_eq_false_iff_ne.mpr c48
                                    have c48b1 : (x15_4 != (wrap64 ((t209.length : Int) - 1))) = true := bne_iff_ne.mpr c48
                                    have H' := Aside0.mk H
                                    clear H
                                    obtain ⟨Ao53, co53, eo53⟩ := Kd.R_slice HO_6.out
                                    subst eo53
                                    go_wp2
                                    repeat (go_quiet (fail); try go_wp2)
                                    go_meet
                                    case rel => exact ⟨_, (false), (by first | rfl | (simp; done) | (simp [*]; done)), H', ⟨by have := HJ3.out; have := HJ12.out; have := HJ23.out; have := HK4.out; first | omega | exact Nat.le_refl _⟩, ⟨by (with_reducible repeat (first | apply Kd.R_alloc | apply Kd.R_drewN | apply Kd.R_drew)); exact HO_6.out⟩, ⟨by (with_reducible repeat (first | apply Kd.R_alloc | apply Kd.R_drewN | apply Kd.R_drew)); exact HO_9.out⟩, ⟨by (with_reducible repeat (first | apply Kd.R_alloc | apply Kd.R_drewN | apply Kd.R_drew)); exact HO_12.out⟩, ⟨by repeat (first | (with_reducible first | exact HB.out | apply below_alloc | apply pw_below_drewN | apply below_drew1) | exact HB.out)⟩⟩
                              case rest =>
                               as_aux_lemma =>
                                clear HC36
                                try clear c1
                                try clear c2
                                try clear p2
                                try clear q2
                                try clear hx2
                                try clear c3
                                try clear c4
                                try clear c5
                                try clear c6
                                try clear c6b0
                                try clear c6b1
                                try clear p6
                                try clear c7
                                try clear c8
                                try clear c10
                                try clear c10b0
                                try clear c10b1
                                try clear c10b2
                                try clear c11
                                try clear c11b0
                                try clear c11b1
                                try clear c11b2
                                try clear c17
                                try clear c17b0
                                try clear c17b1
                                try clear c18
                                try clear c19
                                try clear c20
                                try clear c20b0
                                try clear c20b1
                                try clear c21
                                try clear c21b0
                                try clear c21b1
                                try clear c22
                                try clear c22b0
                                try clear c22b1
                                try clear p22
                                try clear q22
                                try clear hx22
                                try clear c23
                                try clear c23b0
                                try clear c23b1
                                try clear c25
                                try clear c25b0
                                try clear c25b1
                                try clear c26
                                try clear c26b0
                                try clear c26b1
                                try clear c27
                                try clear c27b0
                                try clear c27b1
                                try clear c34
                                try clear c35
                                try clear c35b0
                                try clear c38
                                try clear c38b0
                                try clear c39
                                try clear c39b0
                                try clear c40
                                try clear c40b0
                                try clear c41
                                try clear c41b0
                                try clear c43
                                try clear c43b0
                                try clear c43b1
                                try clear c44
                                try clear c44b0
                                try clear c44b1
                                try clear c48
                                try clear c48b0
                                try clear c48b1
                                try clear c49
                                try clear c49b0
                                try clear c50
                                try clear c50b0
                                try clear c50b1
                                try clear hx224_0
                                try clear hx224_1
                                try clear hx224_2
                                try clear hx225_0
                                try clear hx225_1
                                try clear hx225_2
                                try clear hx226_0
                                try clear hx226_1
                                try clear hx226_2
                                try clear hx227_0
                                try clear hx227_1
                                try clear hx227_2
                                try clear hx228_0
                                try clear hx228_1
                                try clear hx228_2
                                try clear hx229_0
                                try clear hx229_1
                                try clear hx229_2
                                try clear p2
                                try clear p224
                                try clear p225
                                try clear p226
                                try clear p227
                                try clear p228
                                try clear p229
                                try clear p6
                                try clear q224
                                try clear q225
                                try clear q226
                                try clear q227
                                try clear q228
                                try clear q229
                                obtain ⟨kq, x156_35, rfl, HA, HJ35, HO_6, HO_9, HO_12, HB⟩ := hcut
                                cases kq with
                                | zero => exact absurd HA.out (by simp [ridgewaylaw11_LexLines.j4])
                                | succ kj35 =>
                                  have H := HA.out
                                  clear HA
                                  simp only [ridgewaylaw11_LexLines.j4] at H
                                  by_cases c54 : x156_35 = true
                                  · subst c54
                                    have H1 : (none) = some r := by rw [if_pos rfl] at H; exact H
                                    clear H
                                    have H := H1
                                    clear H1
                                    exact absurd H (by simp)
                                  · replace c54 := Bool.eq_false_iff.mpr c54
                                    subst c54
                                    have H1 : (if x15_4 ≥ (t209.length : Int) then (if 0 ≤ (wrap64 (x15_4 - (t209.length : Int))) then (if (wrap64 (x15_4 - (t209.length : Int))) < (t214.length : Int) then (if 0 ≤ x15_4 then (if x15_4 < (t219.length : Int) then (if (!(((rd_T32 t219 x15_4).f0) == ((rd_T32 t214 (wrap64 (x15_4 - (t209.length : Int)))).f0)) || (!(((rd_T32 t219 x15_4).f1) == (wrap64 ((wrap64 (((rd_T32 t214 (wrap64 (x15_4 - (t209.length : Int)))).f1) + t210)) + 1))) || (!((((rd_T32 t219 x15_4).f2).toList) == (((rd_T32 t214 (wrap64 (x15_4 - (t209.length : Int)))).f2).toList))))) = true then (none) else (ridgewaylaw11_LexLines.l0 kj35 t208 t209 t210 t214 t219 (wrap64 (x15_4 + 1)))) else (none)) else (none)) else (none)) else (none)) else (ridgewaylaw11_LexLines.l0 kj35 t208 t209 t210 t214 t219 (wrap64 (x15_4 + 1)))) = some r := by rw [if_neg (show ¬ (false = true) by decide)] at H; exact H
                                    clear H
                                    have H := H1
                                    clear H1
                                    by_cases c55 : x15_4 ≥ (t209.length : Int)
                                    · rw [if_pos c55] at H
                                      have c55b0 : decide ((t209.length : Int) ≤ x15_4) = true := decide_eq_true c55
                                      clear c55
                                      obtain ⟨ji56, hji56⟩ : ∃ j_ : Int, (wrap64 (x15_4 - (t209.length : Int))) = j_ := ⟨_, rfl⟩
                                      replace H : (if 0 ≤ (ji56) then (if (ji56) < (t214.length : Int) then (if 0 ≤ x15_4 then (if x15_4 < (t219.length : Int) then (if (!(((rd_T32 t219 x15_4).f0) == ((rd_T32 t214 (ji56)).f0)) || (!(((rd_T32 t219 x15_4).f1) == (wrap64 ((wrap64 (((rd_T32 t214 (ji56)).f1) + t210)) + 1))) || (!((((rd_T32 t219 x15_4).f2).toList) == (((rd_T32 t214 (ji56)).f2).toList))))) = true then (none) else (ridgewaylaw11_LexLines.l0 kj35 t208 t209 t210 t214 t219 (wrap64 (x15_4 + 1)))) else (none)) else (none)) else (none)) else (none)) = some r := by first | (rw [hji56] at H; exact H) | (simp only [hji56] at H ⊢; exact H)
                                      have hji56w : (IntKind.i64.wrap (x15_4 - (t209.length : Int))) = ji56 := (i64_w _).trans hji56
                                      by_cases c57 : 0 ≤ (ji56)
                                      · rw [if_pos c57] at H
                                        have c57b0 : decide (0 ≤ (ji56)) = true := decide_eq_true c57
                                        clear c57
                                        by_cases c58 : (ji56) < (t214.length : Int)
                                        · rw [if_pos c58] at H
                                          have c58b0 : decide ((ji56) < (t214.length : Int)) = true := decide_eq_true c58
                                          clear c58
                                          by_cases c59 : 0 ≤ x15_4
                                          · rw [if_pos c59] at H
                                            have c59b0 : decide (0 ≤ x15_4) = true := decide_eq_true c59
                                            clear c59
                                            by_cases c60 : x15_4 < (t219.length : Int)
                                            · rw [if_pos c60] at H
                                              have c60b0 : decide (x15_4 < (t219.length : Int)) = true := decide_eq_true c60
                                              clear c60
                                              by_cases c61 : (!(((rd_T32 t219 x15_4).f0) == ((rd_T32 t214 (ji56)).f0)) || (!(((rd_T32 t219 x15_4).f1) == (wrap64 ((wrap64 (((rd_T32 t214 (ji56)).f1) + t210)) + 1))) || (!((((rd_T32 t219 x15_4).f2).toList) == (((rd_T32 t214 (ji56)).f2).toList))))) = true
                                              · rw [if_pos c61] at H
                                                exact absurd H (by simp)
                                              · rw [if_neg c61] at H
                                                have c61b0 : (!(((rd_T32 t219 x15_4).f0) == ((rd_T32 t214 (ji56)).f0)) || (!(((rd_T32 t219 x15_4).f1) == (wrap64 ((wrap64 (((rd_T32 t214 (ji56)).f1) + t210)) + 1))) || (!((((rd_T32 t219 x15_4).f2).toList) == (((rd_T32 t214 (ji56)).f2).toList))))) = false := by simpa using c61
                                                clear c61
                                                have H' := Aside0.mk H
                                                clear H
                                                obtain ⟨Ao62, co62, eo62⟩ := Kd.R_slice HO_6.out
                                                subst eo62
                                                obtain ⟨Ao63, co63, eo63⟩ := Kd.R_slice HO_9.out
                                                subst eo63
                                                have p230 : 0 ≤ ((ji56) : Int) := of_decide_eq_true (by first | (with_reducible assumption) | assumption)
                                                have q230 : (ji56) < (t214.length : Int) := of_decide_eq_true (by first | (with_reducible assumption) | assumption)
                                                obtain ⟨ad230, e230, hx230_0, hx230_1, hx230_2⟩ := at_T32 (Kd.R_reads' HO_9.out).2.2 (ji56) p230 q230
                                                cases e230
                                                replace p230 := eq_true p230
                                                replace q230 := eq_true q230
                                                go_wp2_with (first | ((with_reducible refine gate_dst (N := 16) rfl ?_); (try (refine gate_guard (by rfl) ?_; dsimp only)); refine box_event ?hg (N := 16) ?hd (cs := #[.int .i64 0, .int .i64 0, .string (⟨#[]⟩ : ByteArray)]) (t := 32) ?hr ?_; (case hd => rfl); (case hg => rfl); (case hr => first | (go_simp; done) | (go_simp; rfl)); intro gb231 hg w64 hbox hb; have NE12_231 := Kd.fresh_ok HO_12.out gb231 (by rw [hg]; first | exact Nat.le_refl _ | simp); have n0_ := Aside0.mk (Kd.R_below (Kd.R_elderB (by (with_reducible repeat (first | apply Kd.R_alloc | apply Kd.R_drewN | apply Kd.R_drew)); exact HO_6.out) gb231 (Nat.le_of_eq hg.symm)) hb); have n1_ := Aside0.mk (Kd.R_below (Kd.R_elderB (by (with_reducible repeat (first | apply Kd.R_alloc | apply Kd.R_drewN | apply Kd.R_drew)); exact HO_9.out) gb231 (Nat.le_of_eq hg.symm)) hb); have n2_ := Aside0.mk (Kd.R_below (Kd.R_elderB (by (with_reducible repeat (first | apply Kd.R_alloc | apply Kd.R_drewN | apply Kd.R_drew)); exact HO_12.out) gb231 (Nat.le_of_eq hg.symm)) hb); have n3_ := Aside0.mk (below_step (by repeat (first | (with_reducible first | exact HB.out | apply below_alloc | apply pw_below_drewN | apply below_drew1) | exact HB.out)) hb); have n4_ := Aside0.mk (hbox); have n5_ := Aside0.mk ((by rw [hg]; exact (below_size (by repeat (first | (with_reducible first | exact HB.out | apply below_alloc | apply pw_below_drewN | apply below_drew1) | exact HB.out))) : w.heap.size ≤ gb231)); have n6_ := Aside0.mk ((by rw [hg]; exact (below_size (by repeat (first | (with_reducible first | exact HB.out | apply below_alloc | apply pw_below_drewN | apply below_drew1) | exact HB.out))) : w.heap.size ≤ gb231)); clear HO_6; clear HO_9; clear HO_12; clear HB; have HO_6 := n0_; have HO_9 := n1_; have HO_12 := n2_; have HB := n3_; have BK231 := n4_; have GW231 := n5_; have GE231 := n6_; clear n0_ n1_ n2_ n3_ n4_ n5_ n6_; clear hb hbox hg; have hcz65_0 : w64.cell? ⟨gb231, 0, none⟩ = some (.int .i64 0) := (blk_cell BK231.out 0).trans rfl; have hcz65_1 : w64.cell? ⟨gb231, 1, none⟩ = some (.int .i64 0) := (blk_cell BK231.out 1).trans rfl; have hcz65_2 : w64.cell? ⟨gb231, 2, none⟩ = some (.string (⟨#[]⟩ : ByteArray)) := (blk_cell BK231.out 2).trans rfl; have hfz65_0 := blk_frozen BK231.out 0; have hfz65_1 := blk_frozen BK231.out 1; have hfz65_2 := blk_frozen BK231.out 2; have p232 : 0 ≤ (x15_4 : Int) := of_decide_eq_true (by first | (with_reducible assumption) | assumption); have q232 : x15_4 < (t219.length : Int) := of_decide_eq_true (by first | (with_reducible assumption) | assumption); obtain ⟨ad232, e232, hx232_0, hx232_1, hx232_2⟩ := at_T32 (Kd.R_reads' HO_12.out).2.2 x15_4 p232 q232; cases e232; have hn232_0 : ad232.block ≠ gb231 := Kd.own_blk NE12_231; have hn232_1 : ad232.block ≠ gb231 := Kd.own_blk NE12_231; have hn232_2 : ad232.block ≠ gb231 := Kd.own_blk NE12_231; have hn232_3 : ad232.block ≠ gb231 := Kd.own_blk NE12_231; replace hx232_0 := (cell_far (p := ⟨gb231, 0, none⟩) (by first | (rw [add_block]; exact hn232_0) | (show (Addr.add _ _).block ≠ _; rw [add_block]; exact hn232_0) | exact hn232_0) (.int .i64 ((rd_T32 t214 (ji56)).f0))).trans hx232_0; replace hx232_1 := (cell_far (p := ⟨gb231, 0, none⟩) (by first | (rw [add_block]; exact hn232_0) | (show (Addr.add _ _).block ≠ _; rw [add_block]; exact hn232_0) | exact hn232_0) (.int .i64 ((rd_T32 t214 (ji56)).f0))).trans hx232_1; replace hx232_2 := (cell_far (p := ⟨gb231, 0, none⟩) (by first | (rw [add_block]; exact hn232_0) | (show (Addr.add _ _).block ≠ _; rw [add_block]; exact hn232_0) | exact hn232_0) (.int .i64 ((rd_T32 t214 (ji56)).f0))).trans hx232_2; replace hx232_0 := (cell_far (p := ⟨gb231, 1, none⟩) (by first | (rw [add_block]; exact hn232_1) | (show (Addr.add _ _).block ≠ _; rw [add_block]; exact hn232_1) | exact hn232_1) (.int .i64 ((rd_T32 t214 (ji56)).f1))).trans hx232_0; replace hx232_1 := (cell_far (p := ⟨gb231, 1, none⟩) (by first | (rw [add_block]; exact hn232_1) | (show (Addr.add _ _).block ≠ _; rw [add_block]; exact hn232_1) | exact hn232_1) (.int .i64 ((rd_T32 t214 (ji56)).f1))).trans hx232_1; replace hx232_2 := (cell_far (p := ⟨gb231, 1, none⟩) (by first | (rw [add_block]; exact hn232_1) | (show (Addr.add _ _).block ≠ _; rw [add_block]; exact hn232_1) | exact hn232_1) (.int .i64 ((rd_T32 t214 (ji56)).f1))).trans hx232_2; replace hx232_0 := (cell_far (p := ⟨gb231, 2, none⟩) (by first | (rw [add_block]; exact hn232_2) | (show (Addr.add _ _).block ≠ _; rw [add_block]; exact hn232_2) | exact hn232_2) (.string ((rd_T32 t214 (ji56)).f2))).trans hx232_0; replace hx232_1 := (cell_far (p := ⟨gb231, 2, none⟩) (by first | (rw [add_block]; exact hn232_2) | (show (Addr.add _ _).block ≠ _; rw [add_block]; exact hn232_2) | exact hn232_2) (.string ((rd_T32 t214 (ji56)).f2))).trans hx232_1; replace hx232_2 := (cell_far (p := ⟨gb231, 2, none⟩) (by first | (rw [add_block]; exact hn232_2) | (show (Addr.add _ _).block ≠ _; rw [add_block]; exact hn232_2) | exact hn232_2) (.string ((rd_T32 t214 (ji56)).f2))).trans hx232_2; replace hx232_0 := (cell_far (p := ⟨gb231, 1, none⟩) (by first | (rw [add_block]; exact hn232_3) | (show (Addr.add _ _).block ≠ _; rw [add_block]; exact hn232_3) | exact hn232_3) (.int .i64 (wrap64 ((wrap64 (((rd_T32 t214 (ji56)).f1) + t210)) + 1)))).trans hx232_0; replace hx232_1 := (cell_far (p := ⟨gb231, 1, none⟩) (by first | (rw [add_block]; exact hn232_3) | (show (Addr.add _ _).block ≠ _; rw [add_block]; exact hn232_3) | exact hn232_3) (.int .i64 (wrap64 ((wrap64 (((rd_T32 t214 (ji56)).f1) + t210)) + 1)))).trans hx232_1; replace hx232_2 := (cell_far (p := ⟨gb231, 1, none⟩) (by first | (rw [add_block]; exact hn232_3) | (show (Addr.add _ _).block ≠ _; rw [add_block]; exact hn232_3) | exact hn232_3) (.int .i64 (wrap64 ((wrap64 (((rd_T32 t214 (ji56)).f1) + t210)) + 1)))).trans hx232_2; (try have hy232_0 := fun (n_ : Nat) => (show ((((((w64.drewN n_).setCell ⟨gb231, 0, none⟩ (.int .i64 ((rd_T32 t214 (ji56)).f0))).setCell ⟨gb231, 1, none⟩ (.int .i64 ((rd_T32 t214 (ji56)).f1))).setCell ⟨gb231, 2, none⟩ (.string ((rd_T32 t214 (ji56)).f2))).setCell ⟨gb231, 1, none⟩ (.int .i64 (wrap64 ((wrap64 (((rd_T32 t214 (ji56)).f1) + t210)) + 1))))).cell? _ = some _ from hx232_0)); (try have hy232_1 := fun (n_ : Nat) => (show ((((((w64.drewN n_).setCell ⟨gb231, 0, none⟩ (.int .i64 ((rd_T32 t214 (ji56)).f0))).setCell ⟨gb231, 1, none⟩ (.int .i64 ((rd_T32 t214 (ji56)).f1))).setCell ⟨gb231, 2, none⟩ (.string ((rd_T32 t214 (ji56)).f2))).setCell ⟨gb231, 1, none⟩ (.int .i64 (wrap64 ((wrap64 (((rd_T32 t214 (ji56)).f1) + t210)) + 1))))).cell? _ = some _ from hx232_1)); (try have hy232_2 := fun (n_ : Nat) => (show ((((((w64.drewN n_).setCell ⟨gb231, 0, none⟩ (.int .i64 ((rd_T32 t214 (ji56)).f0))).setCell ⟨gb231, 1, none⟩ (.int .i64 ((rd_T32 t214 (ji56)).f1))).setCell ⟨gb231, 2, none⟩ (.string ((rd_T32 t214 (ji56)).f2))).setCell ⟨gb231, 1, none⟩ (.int .i64 (wrap64 ((wrap64 (((rd_T32 t214 (ji56)).f1) + t210)) + 1))))).cell? _ = some _ from hx232_2)); clear hn232_0; clear hn232_1; clear hn232_2; clear hn232_3; replace p232 := eq_true p232; replace q232 := eq_true q232))
                                                obtain ⟨kz231_0, kz231_1, kz231_2, kzn231_0, kzn231_1, kzn231_2⟩ := box_reads BK231.out (.int .i64 ((rd_T32 t214 (ji56)).f0)) (.int .i64 ((rd_T32 t214 (ji56)).f1)) (.string ((rd_T32 t214 (ji56)).f2)) (.int .i64 (wrap64 ((wrap64 (((rd_T32 t214 (ji56)).f1) + t210)) + 1)))
                                                go_quiet (fail)
                                                try go_wp2
                                                go_roundg kj35
                                                case measure => have := HJ3.out; have := HJ12.out; have := HJ23.out; have := HK4.out; have := HJ35.out; omega
                                                case rel => exact ⟨(wrap64 (x15_4 + 1)), (by first | rfl | (simp; done) | (simp [*]; done)), H', ⟨by have := HJ3.out; have := HJ12.out; have := HJ23.out; have := HK4.out; have := HJ35.out; omega⟩, ⟨by exact R_box4 _ _ _ _ (Kd.R_mono HO_6.out (fun _ hk => ⟨⟨hk.1.1, hk.1.2⟩, hk.2⟩))⟩, ⟨by exact R_box4 _ _ _ _ (Kd.R_mono HO_9.out (fun _ hk => ⟨⟨hk.1.1, hk.1.2⟩, hk.2⟩))⟩, ⟨by exact R_box4 _ _ _ _ (Kd.R_mono HO_12.out (fun _ hk => ⟨⟨hk.1.1, hk.1.2⟩, hk.2⟩))⟩, ⟨by repeat (first | (with_reducible first | exact HB.out | apply below_alloc | apply pw_below_drewN | apply below_drew1 | refine below_set ?_ GE231.out) | exact HB.out)⟩⟩
                                            · rw [if_neg c60] at H
                                              exact absurd H (by simp)
                                          · rw [if_neg c59] at H
                                            exact absurd H (by simp)
                                        · rw [if_neg c58] at H
                                          exact absurd H (by simp)
                                      · rw [if_neg c57] at H
                                        exact absurd H (by simp)
                                    · rw [if_neg c55] at H
                                      have c55b0 : decide ((t209.length : Int) ≤ x15_4) = false := decide_eq_false c55
                                      clear c55
                                      have H' := Aside0.mk H
                                      clear H
                                      obtain ⟨Ao66, co66, eo66⟩ := Kd.R_slice HO_6.out
                                      subst eo66
                                      go_wp2
                                      repeat (go_quiet (fail); try go_wp2)
                                      go_roundg kj35
                                      case measure => have := HJ3.out; have := HJ12.out; have := HJ23.out; have := HK4.out; have := HJ35.out; omega
                                      case rel => exact ⟨(wrap64 (x15_4 + 1)), (by first | rfl | (simp; done) | (simp [*]; done)), H', ⟨by have := HJ3.out; have := HJ12.out; have := HJ23.out; have := HK4.out; have := HJ35.out; omega⟩, ⟨by (with_reducible repeat (first | apply Kd.R_alloc | apply Kd.R_drewN | apply Kd.R_drew)); exact HO_6.out⟩, ⟨by (with_reducible repeat (first | apply Kd.R_alloc | apply Kd.R_drewN | apply Kd.R_drew)); exact HO_9.out⟩, ⟨by (with_reducible repeat (first | apply Kd.R_alloc | apply Kd.R_drewN | apply Kd.R_drew)); exact HO_12.out⟩, ⟨by repeat (first | (with_reducible first | exact HB.out | apply below_alloc | apply pw_below_drewN | apply below_drew1) | exact HB.out)⟩⟩
                            · rw [if_neg c35] at H
                              have c35b0 : decide (x15_4 < (t219.length : Int)) = false := decide_eq_false c35
                              clear c35
                              obtain rfl := Option.some.inj H
                              obtain ⟨Ao67, co67, eo67⟩ := Kd.R_slice HO_12.out
                              subst eo67
                              go_wp2
                              repeat (go_quiet (fail); try go_wp2)
                              go_ret
                              exact ⟨by first | rfl | (simp [errW_none, errW_some] <;> rfl) | (simp [*, errW_none, errW_some] <;> rfl), by repeat (first | (with_reducible first | exact HB.out | apply below_alloc | apply pw_below_drewN | apply below_drew1) | exact HB.out)⟩
          · rw [if_neg c11] at H
            exact absurd H (by simp)
        · rw [if_neg c10] at H
          exact absurd H (by simp)

end Go.Proofs.YtmohglifmoecnaaDoor.PAll
