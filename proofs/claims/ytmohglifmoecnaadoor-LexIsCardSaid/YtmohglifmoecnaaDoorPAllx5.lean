-- Written by a program of this session's (wip/tools), out of the translation. Lean checks it.
import Derived.Test.YtmohglifmoecnaaDoorPAllx0
import Derived.Test.YtmohglifmoecnaaDoorPAllx4
namespace Go.Proofs.YtmohglifmoecnaaDoor.PAll
open Go.RowKit Go.Proofs.YtmohglifmoecnaaDoorW.PrintWords Go.Proofs.YtmohglifmoecnaaDoorW.PrintLast Go.Proofs.YtmohglifmoecnaaDoorW.PrintMore
attribute [local go_sem] max2_int min2_int max_two min_two max_three min_three max_four min_four   -- for this text's walks alone
set_option linter.unusedVariables false
set_option linter.unusedSimpArgs false

/-! ### ridgewayref11_All: function 12 -/
mutual
def ridgewayref11_All.l0 : Nat → ByteArray → List (S32) → Int → Bool → Bool → Option ((List (S32)) × Int × Int)
  | 0, _, _, _, _, _ => none
  | k + 1, x0, x5, x6, x7, x8 => if (x0.size : Int) > 0 then ((ridgewayref11_char.f x0).bind fun t121 => (if 0 < (x0.size : Int) then (if t121 = 0 then (ridgewayref11_All.j1 k x0 x5 x6 x7 x8 t121 (bt x0 0) true) else (if t121 > 1 then (if x7 = true then (if t121 = 1 then (ridgewayref11_All.j1 k x0 x5 x6 x7 x8 t121 (bt x0 0) false) else (ridgewayref11_All.j1 k x0 x5 x6 x7 x8 t121 (bt x0 0) false)) else (ridgewayref11_All.j1 k x0 x5 x6 x7 x8 t121 (bt x0 0) true)) else (if t121 = 1 then (if x7 = true then (ridgewayref11_All.j1 k x0 x5 x6 x7 x8 t121 (bt x0 0) false) else ((ridgewayref11_letter.f (bt x0 0)).bind fun t122 => (if t122 = true then (ridgewayref11_All.j1 k x0 x5 x6 x7 x8 t121 (bt x0 0) false) else (if (bt x0 0) = 32 then (ridgewayref11_All.j1 k x0 x5 x6 x7 x8 t121 (bt x0 0) false) else (if (bt x0 0) = 9 then (ridgewayref11_All.j1 k x0 x5 x6 x7 x8 t121 (bt x0 0) false) else (if (bt x0 0) = 10 then (ridgewayref11_All.j1 k x0 x5 x6 x7 x8 t121 (bt x0 0) false) else (ridgewayref11_All.j1 k x0 x5 x6 x7 x8 t121 (bt x0 0) ((bt x0 0) != 35)))))))) else (ridgewayref11_All.j1 k x0 x5 x6 x7 x8 t121 (bt x0 0) false)))) else (none))) else (if x5.length < 4398046511104 then (some ((x5 ++ [(⟨2, x6, (⟨#[]⟩ : ByteArray)⟩ : S32)]), x6, 0)) else (none))
def ridgewayref11_All.j1 : Nat → ByteArray → List (S32) → Int → Bool → Bool → Int → Int → Bool → Option ((List (S32)) × Int × Int)
  | 0, _, _, _, _, _, _, _, _ => none
  | k + 1, x0, x5, x6, x7, x8, x9, x10, x59 => if x59 = true then (some (([] : List (S32)), x6, 5)) else (if x10 = 10 then (if x5.length < 4398046511104 then ((ridgewayref11_letter.f x10).bind fun t126 => (if 0 ≤ x9 then (if x9 ≤ (x0.size : Int) then (ridgewayref11_All.l0 k (x0.extract (x9 : Int).toNat x0.size) (x5 ++ [(⟨1, x6, (⟨#[]⟩ : ByteArray)⟩ : S32)]) (wrap64 (x6 + 1)) false t126) else (none)) else (none))) else (none)) else (if x7 = true then (if 0 ≤ x9 then (if x9 ≤ (x0.size : Int) then (ridgewayref11_All.l0 k (x0.extract (x9 : Int).toNat x0.size) x5 (wrap64 (x6 + 1)) x7 false) else (none)) else (none)) else (if x10 = 35 then (if 0 ≤ x9 then (if x9 ≤ (x0.size : Int) then (ridgewayref11_All.l0 k (x0.extract (x9 : Int).toNat x0.size) x5 (wrap64 (x6 + 1)) true false) else (none)) else (none)) else ((ridgewayref11_letter.f x10).bind fun t127 => (if t127 = true then (ridgewayref11_All.j2 k x0 x5 x6 x7 x9 x10 x8) else (ridgewayref11_All.j2 k x0 x5 x6 x7 x9 x10 false))))))
def ridgewayref11_All.j2 : Nat → ByteArray → List (S32) → Int → Bool → Int → Int → Bool → Option ((List (S32)) × Int × Int)
  | 0, _, _, _, _, _, _, _ => none
  | k + 1, x0, x5, x6, x7, x9, x10, x74 => if x74 = true then (if 0 ≤ (wrap64 ((x5.length : Int) - 1)) then (if (wrap64 ((x5.length : Int) - 1)) < (x5.length : Int) then (if 0 ≤ 1 then (if 1 ≤ (x0.size : Int) then (if ((rd_T32 x5 (wrap64 ((x5.length : Int) - 1))).f2).size + (x0.extract 0 1).size ≤ 9223372036854775807 then ((some (x5.set ((wrap64 ((x5.length : Int) - 1)) : Int).toNat (⟨(rd_T32 x5 (wrap64 ((x5.length : Int) - 1))).f0, (rd_T32 x5 (wrap64 ((x5.length : Int) - 1))).f1, ((rd_T32 x5 (wrap64 ((x5.length : Int) - 1))).f2) ++ (x0.extract 0 1)⟩ : S32) : List (S32))).bind fun y129 => (if x7 = true then (if 0 ≤ x9 then (if x9 ≤ (x0.size : Int) then (ridgewayref11_All.l0 k (x0.extract (x9 : Int).toNat x0.size) y129 (wrap64 (x6 + 1)) x7 false) else (none)) else (none)) else ((ridgewayref11_letter.f x10).bind fun t130 => (if 0 ≤ x9 then (if x9 ≤ (x0.size : Int) then (ridgewayref11_All.l0 k (x0.extract (x9 : Int).toNat x0.size) y129 (wrap64 (x6 + 1)) x7 t130) else (none)) else (none))))) else (none)) else (none)) else (none)) else (none)) else (none)) else ((ridgewayref11_letter.f x10).bind fun t131 => (if t131 = true then (if 0 ≤ 1 then (if 1 ≤ (x0.size : Int) then (if x5.length < 4398046511104 then ((some (x5 ++ [(⟨0, x6, x0.extract 0 1⟩ : S32)] : List (S32))).bind fun y132 => (if x7 = true then (if 0 ≤ x9 then (if x9 ≤ (x0.size : Int) then (ridgewayref11_All.l0 k (x0.extract (x9 : Int).toNat x0.size) y132 (wrap64 (x6 + 1)) x7 false) else (none)) else (none)) else ((ridgewayref11_letter.f x10).bind fun t135 => (if 0 ≤ x9 then (if x9 ≤ (x0.size : Int) then (ridgewayref11_All.l0 k (x0.extract (x9 : Int).toNat x0.size) y132 (wrap64 (x6 + 1)) x7 t135) else (none)) else (none))))) else (none)) else (none)) else (none)) else (if x7 = true then (if 0 ≤ x9 then (if x9 ≤ (x0.size : Int) then (ridgewayref11_All.l0 k (x0.extract (x9 : Int).toNat x0.size) x5 (wrap64 (x6 + 1)) x7 false) else (none)) else (none)) else ((ridgewayref11_letter.f x10).bind fun t136 => (if 0 ≤ x9 then (if x9 ≤ (x0.size : Int) then (ridgewayref11_All.l0 k (x0.extract (x9 : Int).toNat x0.size) x5 (wrap64 (x6 + 1)) x7 t136) else (none)) else (none))))))
end
def ridgewayref11_All.f (k : Nat) (a0 : ByteArray) : Option ((List (S32)) × Int × Int) := if (a0.size : Int) > 8000 then (some (([] : List (S32)), 0, 4)) else (ridgewayref11_All.l0 k a0 ([] : List (S32)) 0 false false)
theorem ridgewayref11_All.mono_l : ∀ k, (∀ y0 y1 y2 y3 y4, LeO (ridgewayref11_All.l0 k y0 y1 y2 y3 y4) (ridgewayref11_All.l0 (k + 1) y0 y1 y2 y3 y4)) ∧ (∀ y0 y1 y2 y3 y4 y5 y6 y7, LeO (ridgewayref11_All.j1 k y0 y1 y2 y3 y4 y5 y6 y7) (ridgewayref11_All.j1 (k + 1) y0 y1 y2 y3 y4 y5 y6 y7)) ∧ (∀ y0 y1 y2 y3 y4 y5 y6, LeO (ridgewayref11_All.j2 k y0 y1 y2 y3 y4 y5 y6) (ridgewayref11_All.j2 (k + 1) y0 y1 y2 y3 y4 y5 y6))
  | 0 => ⟨fun _ _ _ _ _ r h => by simp [ridgewayref11_All.l0] at h, fun _ _ _ _ _ _ _ _ r h => by simp [ridgewayref11_All.j1] at h, fun _ _ _ _ _ _ _ r h => by simp [ridgewayref11_All.j2] at h⟩
  | k + 1 => by
    obtain ⟨ih0, ih1, ih2⟩ := ridgewayref11_All.mono_l k
    refine ⟨?_, ?_, ?_⟩
    · intro y0 y1 y2 y3 y4
      unfold ridgewayref11_All.l0
      repeat' first
      | (with_reducible exact ih0 _ _ _ _ _)
      | (with_reducible exact ih1 _ _ _ _ _ _ _ _)
      | (with_reducible exact ih2 _ _ _ _ _ _ _)
      | (with_reducible exact LeO.refl _)
      | (with_reducible exact LeO.none _)
      | (with_reducible refine LeO.ite ?_ ?_)
      | (with_reducible refine LeO.bind ?_ (fun _ => ?_))
      | exact ih0 _ _ _ _ _
      | exact ih1 _ _ _ _ _ _ _ _
      | exact ih2 _ _ _ _ _ _ _
      | exact LeO.none _
      | refine LeO.ite ?_ ?_
      | refine LeO.bind ?_ (fun _ => ?_)
    · intro y0 y1 y2 y3 y4 y5 y6 y7
      unfold ridgewayref11_All.j1
      repeat' first
      | (with_reducible exact ih0 _ _ _ _ _)
      | (with_reducible exact ih1 _ _ _ _ _ _ _ _)
      | (with_reducible exact ih2 _ _ _ _ _ _ _)
      | (with_reducible exact LeO.refl _)
      | (with_reducible exact LeO.none _)
      | (with_reducible refine LeO.ite ?_ ?_)
      | (with_reducible refine LeO.bind ?_ (fun _ => ?_))
      | exact ih0 _ _ _ _ _
      | exact ih1 _ _ _ _ _ _ _ _
      | exact ih2 _ _ _ _ _ _ _
      | exact LeO.none _
      | refine LeO.ite ?_ ?_
      | refine LeO.bind ?_ (fun _ => ?_)
    · intro y0 y1 y2 y3 y4 y5 y6
      unfold ridgewayref11_All.j2
      repeat' first
      | (with_reducible exact ih0 _ _ _ _ _)
      | (with_reducible exact ih1 _ _ _ _ _ _ _ _)
      | (with_reducible exact ih2 _ _ _ _ _ _ _)
      | (with_reducible exact LeO.refl _)
      | (with_reducible exact LeO.none _)
      | (with_reducible refine LeO.ite ?_ ?_)
      | (with_reducible refine LeO.bind ?_ (fun _ => ?_))
      | exact ih0 _ _ _ _ _
      | exact ih1 _ _ _ _ _ _ _ _
      | exact ih2 _ _ _ _ _ _ _
      | exact LeO.none _
      | refine LeO.ite ?_ ?_
      | refine LeO.bind ?_ (fun _ => ?_)
theorem ridgewayref11_All.mono : ∀ a0 k, LeO (ridgewayref11_All.f k a0) (ridgewayref11_All.f (k + 1) a0) := by
  intro a0 k
  obtain ⟨ih0, ih1, ih2⟩ := ridgewayref11_All.mono_l k
  unfold ridgewayref11_All.f
  repeat' first
      | (with_reducible exact ih0 _ _ _ _ _)
      | (with_reducible exact ih1 _ _ _ _ _ _ _ _)
      | (with_reducible exact ih2 _ _ _ _ _ _ _)
      | (with_reducible exact LeO.refl _)
      | (with_reducible exact LeO.none _)
      | (with_reducible refine LeO.ite ?_ ?_)
      | (with_reducible refine LeO.bind ?_ (fun _ => ?_))
      | exact ih0 _ _ _ _ _
      | exact ih1 _ _ _ _ _ _ _ _
      | exact ih2 _ _ _ _ _ _ _
      | exact LeO.none _
      | refine LeO.ite ?_ ?_
      | refine LeO.bind ?_ (fun _ => ?_)
def ridgewayref11_All.T19 : Bool × List (List Nat × List Nat) := (true, [([], []), ([], []), ([1], [1]), ([2], [2]), ([], []), ([], []), ([5], [5]), ([6], [6]), ([4, 7], [4, 7]), ([8], [8]), ([9], [9]), ([], []), ([11], [11]), ([10, 12], [10, 12]), ([0, 3, 0, 1, 2, 3, 4, 5, 6, 7, 8, 9, 10, 11, 12, 13], [0, 3]), ([14, 0, 1, 2, 3, 4, 5, 6, 7, 8, 9, 10, 11, 12, 13], [14]), ([15, 13, 0, 1, 2, 3, 4, 5, 6, 7, 8, 9, 10, 11, 12, 13], [13, 15])])
def ridgewayref11_All.B19 : List Nat := [0, 0, 2, 6, 0, 0, 32, 96, 240, 496, 1008, 0, 2048, 8176, 16383, 32767, 65535]
theorem ridgewayref11_All.tab19 : rtab .any (opsOf Tryd.f12 19) = ridgewayref11_All.T19 := by kernel_rfl
theorem ridgewayref11_All.bits19 : waitsOk ridgewayref11_All.T19.2 ridgewayref11_All.B19 = true := by kernel_rfl
set_option maxHeartbeats 8000000 in
set_option maxRecDepth 100000 in
theorem ridgewayref11_All.calls (k : Nat) (a0 : ByteArray) (r1 : List (S32)) (r2 : Int) (r3 : Int) (w : World) (h : ridgewayref11_All.f k a0 = some (r1, r2, r3)) :
    Calls Tryd.prog 12 #[.string a0] w fun e w' => ∃ v0_ : Value, e = .returned (.tuple #[v0_, .int .i64 r2, .int .i64 r3]) ∧ Kd.R k32 32 w' w.heap.size (fun _ => True) v0_ r1 ∧ Below w.heap.size w w' := by
  have hu32 := Tryd.underlying32
  have HB := Aside0.mk (Below.refl w.heap.size w)
  have H : (if (a0.size : Int) > 8000 then (some (([] : List (S32)), 0, 4)) else (ridgewayref11_All.l0 k a0 ([] : List (S32)) 0 false false)) = some (r1, r2, r3) := h
  clear h
  by_cases c2 : (a0.size : Int) > 8000
  · rw [if_pos c2] at H
    have c2b0 : decide (8000 < (a0.size : Int)) = true := decide_eq_true c2
    have c2b1 : decide (8000 < a0.size) = true := decide_eq_true (by omega)
    clear c2
    simp only [Option.some.injEq, Prod.mk.injEq] at H
    obtain ⟨rfl, rfl, rfl⟩ := H
    go_enter Tryd.func12, Tryd.ntmps12
    go_wp2
    go_ret3
    exact ⟨_, by first | rfl | (simp [errW_none, errW_some] <;> rfl) | (simp [*, errW_none, errW_some] <;> rfl), by first | exact Kd.R_nil _ _ _ _ _ | exact Kd.N_nil _ _ _ _ _ | exact Kd.V_nil _ _ _ _ _ | exact Kd.Q_nil _ _ _ _ _ | exact Kd.S_nil _ _ _ _ _, by repeat (first | (with_reducible first | exact HB.out | apply below_alloc | apply pw_below_drewN | apply below_drew1) | exact HB.out)⟩
  · rw [if_neg c2] at H
    have c2b0 : decide (8000 < (a0.size : Int)) = false := decide_eq_false c2
    have c2b1 : decide (8000 < a0.size) = false := decide_eq_false (by omega)
    clear c2
    have H' := Aside0.mk H
    clear H
    go_enter Tryd.func12, Tryd.ntmps12
    go_wp2
    go_loopg [0, 5, 6, 7, 8] k (fun kq v0 v5 v6 v7 v8 w' => ∃ (x0_1 : ByteArray) (x5_1 : List (S32)) (x6_1 : Int) (x7_1 : Bool) (x8_1 : Bool), v0 = .string x0_1 ∧ v6 = .int .i64 x6_1 ∧ v7 = .bool x7_1 ∧ v8 = .bool x8_1 ∧ Aside0 (ridgewayref11_All.l0 kq x0_1 x5_1 x6_1 x7_1 x8_1 = some (r1, r2, r3)) ∧ Aside0 (kq ≤ k) ∧ Aside0 (Kd.R k32 32 w' w.heap.size (fun _ => True) v5 x5_1) ∧ Aside0 (Below w.heap.size w w'))
    case atStart => exact ⟨(a0), (([] : List (S32))), (0), (false), (false), (by first | rfl | (simp; done) | (simp [*]; done)), (by first | rfl | (simp; done) | (simp [*]; done)), (by first | rfl | (simp; done) | (simp [*]; done)), (by first | rfl | (simp; done) | (simp [*]; done)), H', ⟨Nat.le_refl _⟩, ⟨by first | exact Kd.R_nil _ _ _ _ _ | exact Kd.N_nil _ _ _ _ _ | exact Kd.V_nil _ _ _ _ _ | exact Kd.Q_nil _ _ _ _ _ | exact Kd.S_nil _ _ _ _ _⟩, ⟨by repeat (first | (with_reducible first | exact HB.out | apply below_alloc | apply pw_below_drewN | apply below_drew1) | exact HB.out)⟩⟩
    case round =>
      clear H'
      try clear c1
      try clear c2
      try clear c2b0
      try clear c2b1
      try clear p2
      obtain ⟨x0_1, x5_1, x6_1, x7_1, x8_1, rfl, rfl, rfl, rfl, HA, HK1, HO_5, HB⟩ := hrel
      cases gk with
      | zero => exact absurd HA.out (by simp [ridgewayref11_All.l0])
      | succ k1 =>
        have H := HA.out
        clear HA
        simp only [ridgewayref11_All.l0] at H
        by_cases c3 : (x0_1.size : Int) > 0
        · rw [if_pos c3] at H
          have c3b0 : decide (0 < (x0_1.size : Int)) = true := decide_eq_true c3
          have c3b1 : decide (0 < x0_1.size) = true := decide_eq_true (by omega)
          clear c3
          replace H := Option.bind_eq_some_iff.mp H
          obtain ⟨t121, A40, H⟩ := H
          replace H : (if 0 < (x0_1.size : Int) then (if t121 = 0 then (ridgewayref11_All.j1 k1 x0_1 x5_1 x6_1 x7_1 x8_1 t121 (bt x0_1 0) true) else (if t121 > 1 then (if x7_1 = true then (if t121 = 1 then (ridgewayref11_All.j1 k1 x0_1 x5_1 x6_1 x7_1 x8_1 t121 (bt x0_1 0) false) else (ridgewayref11_All.j1 k1 x0_1 x5_1 x6_1 x7_1 x8_1 t121 (bt x0_1 0) false)) else (ridgewayref11_All.j1 k1 x0_1 x5_1 x6_1 x7_1 x8_1 t121 (bt x0_1 0) true)) else (if t121 = 1 then (if x7_1 = true then (ridgewayref11_All.j1 k1 x0_1 x5_1 x6_1 x7_1 x8_1 t121 (bt x0_1 0) false) else ((ridgewayref11_letter.f (bt x0_1 0)).bind fun t122 => (if t122 = true then (ridgewayref11_All.j1 k1 x0_1 x5_1 x6_1 x7_1 x8_1 t121 (bt x0_1 0) false) else (if (bt x0_1 0) = 32 then (ridgewayref11_All.j1 k1 x0_1 x5_1 x6_1 x7_1 x8_1 t121 (bt x0_1 0) false) else (if (bt x0_1 0) = 9 then (ridgewayref11_All.j1 k1 x0_1 x5_1 x6_1 x7_1 x8_1 t121 (bt x0_1 0) false) else (if (bt x0_1 0) = 10 then (ridgewayref11_All.j1 k1 x0_1 x5_1 x6_1 x7_1 x8_1 t121 (bt x0_1 0) false) else (ridgewayref11_All.j1 k1 x0_1 x5_1 x6_1 x7_1 x8_1 t121 (bt x0_1 0) ((bt x0_1 0) != 35)))))))) else (ridgewayref11_All.j1 k1 x0_1 x5_1 x6_1 x7_1 x8_1 t121 (bt x0_1 0) false)))) else (none)) = some (r1, r2, r3) := H
          have A4 := Aside0.mk A40
          clear A40
          by_cases c5 : 0 < (x0_1.size : Int)
          · rw [if_pos c5] at H
            have c5b0 : decide (0 < (x0_1.size : Int)) = true := decide_eq_true c5
            have c5b1 : decide (0 < x0_1.size) = true := decide_eq_true (by omega)
            clear c5
            have HC7 := Aside0.mk H
            clear H
            go_upto_region 10 with (first | ((with_reducible refine gate_callee (f := 18) rfl ?_); refine goesL_ (some 18) rfl rfl Tryd.func18 (by kernel_rfl) rfl #[.string x0_1] rfl (by (try simp only [List.map_toArray, List.map_cons, List.map_nil]); first | done | rfl | (simp only [List.length_drop, List.length_take]; rfl)) ?_; (with_reducible refine (ridgewayref11_char.calls x0_1 t121 _ A4.out).mono ?_); rintro e w8 ⟨rfl, hb⟩; refine ⟨_, rfl, ?_⟩; have n0_ := Aside0.mk (Kd.R_below (by (with_reducible repeat (first | apply Kd.R_alloc | apply Kd.R_drewN | apply Kd.R_drew)); exact HO_5.out) hb); have n1_ := Aside0.mk (below_step (by repeat (first | (with_reducible first | exact HB.out | apply below_alloc | apply pw_below_drewN | apply below_drew1) | exact HB.out)) hb); clear HO_5; clear HB; have HO_5 := n0_; have HB := n1_; clear n0_ n1_; (try clear hb); (try clear hb2); (try clear hk); (try clear hi); have p6 : 0 ≤ (0 : Int) := (by omega); have q6 : 0 < x0_1.size := (by have : (0 : Int) < (x0_1.size : Int) := of_decide_eq_true (by first | (with_reducible assumption) | assumption); omega); have hx6 : ∀ h : 0 < x0_1.size, ((x0_1[0]'h).toNat : Int) = bt x0_1 0 := bt_at x0_1 0; clear p6; have qi6 : (0 < (x0_1.size : Int)) = True := eq_true (of_decide_eq_true (by first | (with_reducible assumption) | assumption)); replace q6 := eq_true q6))
            (try simp only [Act.put, List.setIfInBounds_toArray, List.set_cons_zero, List.set_cons_succ])
            go_cut [59] (fun v59 wc => ∃ (kq : Nat) (x59_6 : Bool), v59 = .bool x59_6 ∧ Aside0 (ridgewayref11_All.j1 kq x0_1 x5_1 x6_1 x7_1 x8_1 t121 (bt x0_1 0) x59_6 = some (r1, r2, r3)) ∧ Aside0 (kq ≤ k1) ∧ Aside0 (Kd.R k32 32 wc w.heap.size (fun _ => True) u5 x5_1) ∧ Aside0 (Below w.heap.size w wc))
            case first =>
              have H := HC7.out
              clear HC7
              by_cases c9 : t121 = 0
              · rw [if_pos c9] at H
                have c9b0 : (t121 == 0) = true := beq_iff_eq.mpr c9
                have c9b1 : (t121 != 0) = false := bne_eq_false_iff_eq.mpr c9
                clear c9
                (first | (rw [c9b0]; skip) | skip)
                have H' := Aside0.mk H
                clear H
                go_wp2
                go_meet
                case rel => exact ⟨_, (true), (by first | rfl | (simp; done) | (simp [*]; done)), H', ⟨by have := HK1.out; first | omega | exact Nat.le_refl _⟩, ⟨by (with_reducible repeat (first | apply Kd.R_alloc | apply Kd.R_drewN | apply Kd.R_drew)); exact HO_5.out⟩, ⟨by repeat (first | (with_reducible first | exact HB.out | apply below_alloc | apply pw_below_drewN | apply below_drew1) | exact HB.out)⟩⟩
              · rw [if_neg c9] at H
                have c9b0 : (t121 == 0) = false := beq_eq_false_iff_ne.mpr c9
                have c9b1 : (t121 != 0) = true := bne_iff_ne.mpr c9
                (first | (rw [c9b0]; skip) | skip)
                by_cases c10 : t121 > 1
                · rw [if_pos c10] at H
                  have c10b0 : decide (1 < t121) = true := decide_eq_true c10
                  clear c10
                  by_cases c11 : x7_1 = true
                  · subst c11
                    have H1 : (if t121 = 1 then (ridgewayref11_All.j1 k1 x0_1 x5_1 x6_1 true x8_1 t121 (bt x0_1 0) false) else (ridgewayref11_All.j1 k1 x0_1 x5_1 x6_1 true x8_1 t121 (bt x0_1 0) false)) = some (r1, r2, r3) := by rw [if_pos rfl] at H; exact H
                    clear H
                    have H := H1
                    clear H1
                    by_cases c12 : t121 = 1
                    · rw [if_pos c12] at H
                      have c12b0 : (t121 == 1) = true := beq_iff_eq.mpr c12
                      have c12b1 : (t121 != 1) = false := bne_eq_false_iff_eq.mpr c12
                      clear c12
                      have H' := Aside0.mk H
                      clear H
                      go_wp2
                      go_meet
                      case rel => exact ⟨_, (false), (by first | rfl | (simp; done) | (simp [*]; done)), H', ⟨by have := HK1.out; first | omega | exact Nat.le_refl _⟩, ⟨by (with_reducible repeat (first | apply Kd.R_alloc | apply Kd.R_drewN | apply Kd.R_drew)); exact HO_5.out⟩, ⟨by repeat (first | (with_reducible first | exact HB.out | apply below_alloc | apply pw_below_drewN | apply below_drew1) | exact HB.out)⟩⟩
                    · rw [if_neg c12] at H
                      have c12b0 : (t121 == 1) = false := beq_eq_false_iff_ne.mpr c12
                      have c12b1 : (t121 != 1) = true := bne_iff_ne.mpr c12
                      have H' := Aside0.mk H
                      clear H
                      go_wp2
                      go_meet
                      case rel => exact ⟨_, (false), (by first | rfl | (simp; done) | (simp [*]; done)), H', ⟨by have := HK1.out; first | omega | exact Nat.le_refl _⟩, ⟨by (with_reducible repeat (first | apply Kd.R_alloc | apply Kd.R_drewN | apply Kd.R_drew)); exact HO_5.out⟩, ⟨by repeat (first | (with_reducible first | exact HB.out | apply below_alloc | apply pw_below_drewN | apply below_drew1) | exact HB.out)⟩⟩
                  · replace c11 := Bool.eq_false_iff.mpr c11
                    subst c11
                    have H1 : (ridgewayref11_All.j1 k1 x0_1 x5_1 x6_1 false x8_1 t121 (bt x0_1 0) true) = some (r1, r2, r3) := by rw [if_neg (show ¬ (false = true) by decide)] at H; exact H
                    clear H
                    have H := H1
                    clear H1
                    have H' := Aside0.mk H
                    clear H
                    go_wp2
                    go_meet
                    case rel => exact ⟨_, (true), (by first | rfl | (simp; done) | (simp [*]; done)), H', ⟨by have := HK1.out; first | omega | exact Nat.le_refl _⟩, ⟨by (with_reducible repeat (first | apply Kd.R_alloc | apply Kd.R_drewN | apply Kd.R_drew)); exact HO_5.out⟩, ⟨by repeat (first | (with_reducible first | exact HB.out | apply below_alloc | apply pw_below_drewN | apply below_drew1) | exact HB.out)⟩⟩
                · rw [if_neg c10] at H
                  have c10b0 : decide (1 < t121) = false := decide_eq_false c10
                  clear c10
                  by_cases c13 : t121 = 1
                  · rw [if_pos c13] at H
                    have c13b0 : (t121 == 1) = true := beq_iff_eq.mpr c13
                    have c13b1 : (t121 != 1) = false := bne_eq_false_iff_eq.mpr c13
                    clear c13
                    by_cases c14 : x7_1 = true
                    · subst c14
                      have H1 : (ridgewayref11_All.j1 k1 x0_1 x5_1 x6_1 true x8_1 t121 (bt x0_1 0) false) = some (r1, r2, r3) := by rw [if_pos rfl] at H; exact H
                      clear H
                      have H := H1
                      clear H1
                      have H' := Aside0.mk H
                      clear H
                      go_wp2
                      go_meet
                      case rel => exact ⟨_, (false), (by first | rfl | (simp; done) | (simp [*]; done)), H', ⟨by have := HK1.out; first | omega | exact Nat.le_refl _⟩, ⟨by (with_reducible repeat (first | apply Kd.R_alloc | apply Kd.R_drewN | apply Kd.R_drew)); exact HO_5.out⟩, ⟨by repeat (first | (with_reducible first | exact HB.out | apply below_alloc | apply pw_below_drewN | apply below_drew1) | exact HB.out)⟩⟩
                    · replace c14 := Bool.eq_false_iff.mpr c14
                      subst c14
                      have H1 : ((ridgewayref11_letter.f (bt x0_1 0)).bind fun t122 => (if t122 = true then (ridgewayref11_All.j1 k1 x0_1 x5_1 x6_1 false x8_1 t121 (bt x0_1 0) false) else (if (bt x0_1 0) = 32 then (ridgewayref11_All.j1 k1 x0_1 x5_1 x6_1 false x8_1 t121 (bt x0_1 0) false) else (if (bt x0_1 0) = 9 then (ridgewayref11_All.j1 k1 x0_1 x5_1 x6_1 false x8_1 t121 (bt x0_1 0) false) else (if (bt x0_1 0) = 10 then (ridgewayref11_All.j1 k1 x0_1 x5_1 x6_1 false x8_1 t121 (bt x0_1 0) false) else (ridgewayref11_All.j1 k1 x0_1 x5_1 x6_1 false x8_1 t121 (bt x0_1 0) ((bt x0_1 0) != 35))))))) = some (r1, r2, r3) := by rw [if_neg (show ¬ (false = true) by decide)] at H; exact H
                      clear H
                      have H := H1
                      clear H1
                      replace H := Option.bind_eq_some_iff.mp H
                      obtain ⟨t122, A150, H⟩ := H
                      replace H : (if t122 = true then (ridgewayref11_All.j1 k1 x0_1 x5_1 x6_1 false x8_1 t121 (bt x0_1 0) false) else (if (bt x0_1 0) = 32 then (ridgewayref11_All.j1 k1 x0_1 x5_1 x6_1 false x8_1 t121 (bt x0_1 0) false) else (if (bt x0_1 0) = 9 then (ridgewayref11_All.j1 k1 x0_1 x5_1 x6_1 false x8_1 t121 (bt x0_1 0) false) else (if (bt x0_1 0) = 10 then (ridgewayref11_All.j1 k1 x0_1 x5_1 x6_1 false x8_1 t121 (bt x0_1 0) false) else (ridgewayref11_All.j1 k1 x0_1 x5_1 x6_1 false x8_1 t121 (bt x0_1 0) ((bt x0_1 0) != 35)))))) = some (r1, r2, r3) := H
                      have A15 := Aside0.mk A150
                      clear A150
                      by_cases c16 : t122 = true
                      · subst c16
                        have H1 : (ridgewayref11_All.j1 k1 x0_1 x5_1 x6_1 false x8_1 t121 (bt x0_1 0) false) = some (r1, r2, r3) := by rw [if_pos rfl] at H; exact H
                        clear H
                        have H := H1
                        clear H1
                        have H' := Aside0.mk H
                        clear H
                        go_wp2_with (first | (go_at_call 19; (with_reducible refine (ridgewayref11_letter.calls (bt x0_1 0) true _ A15.out).mono ?_); rintro e w' ⟨rfl, ⟨nd, rfl⟩⟩))
                        go_meet
                        case rel => exact ⟨_, (false), (by first | rfl | (simp; done) | (simp [*]; done)), H', ⟨by have := HK1.out; first | omega | exact Nat.le_refl _⟩, ⟨by (with_reducible repeat (first | apply Kd.R_alloc | apply Kd.R_drewN | apply Kd.R_drew)); exact HO_5.out⟩, ⟨by repeat (first | (with_reducible first | exact HB.out | apply below_alloc | apply pw_below_drewN | apply below_drew1) | exact HB.out)⟩⟩
                      · replace c16 := Bool.eq_false_iff.mpr c16
                        subst c16
                        have H1 : (if (bt x0_1 0) = 32 then (ridgewayref11_All.j1 k1 x0_1 x5_1 x6_1 false x8_1 t121 (bt x0_1 0) false) else (if (bt x0_1 0) = 9 then (ridgewayref11_All.j1 k1 x0_1 x5_1 x6_1 false x8_1 t121 (bt x0_1 0) false) else (if (bt x0_1 0) = 10 then (ridgewayref11_All.j1 k1 x0_1 x5_1 x6_1 false x8_1 t121 (bt x0_1 0) false) else (ridgewayref11_All.j1 k1 x0_1 x5_1 x6_1 false x8_1 t121 (bt x0_1 0) ((bt x0_1 0) != 35))))) = some (r1, r2, r3) := by rw [if_neg (show ¬ (false = true) by decide)] at H; exact H
                        clear H
                        have H := H1
                        clear H1
                        by_cases c17 : (bt x0_1 0) = 32
                        · rw [if_pos c17] at H
                          have c17b0 : ((bt x0_1 0) == 32) = true := beq_iff_eq.mpr c17
                          have c17b1 : ((bt x0_1 0) != 32) = false := bne_eq_false_iff_eq.mpr c17
                          clear c17
                          have H' := Aside0.mk H
                          clear H
                          go_wp2_with (first | (go_at_call 19; (with_reducible refine (ridgewayref11_letter.calls (bt x0_1 0) false _ A15.out).mono ?_); rintro e w' ⟨rfl, ⟨nd, rfl⟩⟩))
                          go_meet
                          case rel => exact ⟨_, (false), (by first | rfl | (simp; done) | (simp [*]; done)), H', ⟨by have := HK1.out; first | omega | exact Nat.le_refl _⟩, ⟨by (with_reducible repeat (first | apply Kd.R_alloc | apply Kd.R_drewN | apply Kd.R_drew)); exact HO_5.out⟩, ⟨by repeat (first | (with_reducible first | exact HB.out | apply below_alloc | apply pw_below_drewN | apply below_drew1) | exact HB.out)⟩⟩
                        · rw [if_neg c17] at H
                          have c17b0 : ((bt x0_1 0) == 32) = false := beq_eq_false_iff_ne.mpr c17
                          have c17b1 : ((bt x0_1 0) != 32) = true := bne_iff_ne.mpr c17
                          by_cases c18 : (bt x0_1 0) = 9
                          · rw [if_pos c18] at H
                            have c18b0 : ((bt x0_1 0) == 9) = true := beq_iff_eq.mpr c18
                            have c18b1 : ((bt x0_1 0) != 9) = false := bne_eq_false_iff_eq.mpr c18
                            clear c18
                            have H' := Aside0.mk H
                            clear H
                            go_wp2_with (first | (go_at_call 19; (with_reducible refine (ridgewayref11_letter.calls (bt x0_1 0) false _ A15.out).mono ?_); rintro e w' ⟨rfl, ⟨nd, rfl⟩⟩))
                            go_meet
                            case rel => exact ⟨_, (false), (by first | rfl | (simp; done) | (simp [*]; done)), H', ⟨by have := HK1.out; first | omega | exact Nat.le_refl _⟩, ⟨by (with_reducible repeat (first | apply Kd.R_alloc | apply Kd.R_drewN | apply Kd.R_drew)); exact HO_5.out⟩, ⟨by repeat (first | (with_reducible first | exact HB.out | apply below_alloc | apply pw_below_drewN | apply below_drew1) | exact HB.out)⟩⟩
                          · rw [if_neg c18] at H
                            have c18b0 : ((bt x0_1 0) == 9) = false := beq_eq_false_iff_ne.mpr c18
                            have c18b1 : ((bt x0_1 0) != 9) = true := bne_iff_ne.mpr c18
                            by_cases c19 : (bt x0_1 0) = 10
                            · rw [if_pos c19] at H
                              have c19b0 : ((bt x0_1 0) == 10) = true := beq_iff_eq.mpr c19
                              have c19b1 : ((bt x0_1 0) != 10) = false := bne_eq_false_iff_eq.mpr c19
                              clear c19
                              have H' := Aside0.mk H
                              clear H
                              go_wp2_with (first | (go_at_call 19; (with_reducible refine (ridgewayref11_letter.calls (bt x0_1 0) false _ A15.out).mono ?_); rintro e w' ⟨rfl, ⟨nd, rfl⟩⟩))
                              go_meet
                              case rel => exact ⟨_, (false), (by first | rfl | (simp; done) | (simp [*]; done)), H', ⟨by have := HK1.out; first | omega | exact Nat.le_refl _⟩, ⟨by (with_reducible repeat (first | apply Kd.R_alloc | apply Kd.R_drewN | apply Kd.R_drew)); exact HO_5.out⟩, ⟨by repeat (first | (with_reducible first | exact HB.out | apply below_alloc | apply pw_below_drewN | apply below_drew1) | exact HB.out)⟩⟩
                            · rw [if_neg c19] at H
                              have c19b0 : ((bt x0_1 0) == 10) = false := beq_eq_false_iff_ne.mpr c19
                              have c19b1 : ((bt x0_1 0) != 10) = true := bne_iff_ne.mpr c19
                              have H' := Aside0.mk H
                              clear H
                              go_wp2_with (first | (go_at_call 19; (with_reducible refine (ridgewayref11_letter.calls (bt x0_1 0) false _ A15.out).mono ?_); rintro e w' ⟨rfl, ⟨nd, rfl⟩⟩))
                              go_meet
                              case rel => exact ⟨_, (((bt x0_1 0) != 35)), (by first | rfl | (simp; done) | (simp [*]; done)), H', ⟨by have := HK1.out; first | omega | exact Nat.le_refl _⟩, ⟨by (with_reducible repeat (first | apply Kd.R_alloc | apply Kd.R_drewN | apply Kd.R_drew)); exact HO_5.out⟩, ⟨by repeat (first | (with_reducible first | exact HB.out | apply below_alloc | apply pw_below_drewN | apply below_drew1) | exact HB.out)⟩⟩
                  · rw [if_neg c13] at H
                    have c13b0 : (t121 == 1) = false := beq_eq_false_iff_ne.mpr c13
                    have c13b1 : (t121 != 1) = true := bne_iff_ne.mpr c13
                    have H' := Aside0.mk H
                    clear H
                    go_wp2
                    go_meet
                    case rel => exact ⟨_, (false), (by first | rfl | (simp; done) | (simp [*]; done)), H', ⟨by have := HK1.out; first | omega | exact Nat.le_refl _⟩, ⟨by (with_reducible repeat (first | apply Kd.R_alloc | apply Kd.R_drewN | apply Kd.R_drew)); exact HO_5.out⟩, ⟨by repeat (first | (with_reducible first | exact HB.out | apply below_alloc | apply pw_below_drewN | apply below_drew1) | exact HB.out)⟩⟩
            case rest =>
              clear HC7
              try clear c1
              try clear c2
              try clear c2b0
              try clear c2b1
              try clear p2
              try clear c3
              try clear c3b0
              try clear c3b1
              try clear c5
              try clear c5b0
              try clear c5b1
              try clear p6
              try clear q6
              try clear hx6
              try clear qi6
              try clear c9
              try clear c9b0
              try clear c9b1
              try clear c10
              try clear c10b0
              try clear c11
              try clear c12
              try clear c12b0
              try clear c12b1
              try clear c13
              try clear c13b0
              try clear c13b1
              try clear c14
              try clear c16
              try clear c17
              try clear c17b0
              try clear c17b1
              try clear c18
              try clear c18b0
              try clear c18b1
              try clear c19
              try clear c19b0
              try clear c19b1
              try clear p2
              try clear p6
              try clear q6
              obtain ⟨kq, x59_6, rfl, HA, HJ6, HO_5, HB⟩ := hcut
              cases kq with
              | zero => exact absurd HA.out (by simp [ridgewayref11_All.j1])
              | succ kj6 =>
                have H := HA.out
                clear HA
                simp only [ridgewayref11_All.j1] at H
                by_cases c20 : x59_6 = true
                · subst c20
                  have H1 : (some (([] : List (S32)), x6_1, 5)) = some (r1, r2, r3) := by rw [if_pos rfl] at H; exact H
                  clear H
                  have H := H1
                  clear H1
                  simp only [Option.some.injEq, Prod.mk.injEq] at H
                  obtain ⟨rfl, rfl, rfl⟩ := H
                  go_wp2
                  go_ret3
                  exact ⟨_, by first | rfl | (simp [errW_none, errW_some] <;> rfl) | (simp [*, errW_none, errW_some] <;> rfl), by first | exact Kd.R_nil _ _ _ _ _ | exact Kd.N_nil _ _ _ _ _ | exact Kd.V_nil _ _ _ _ _ | exact Kd.Q_nil _ _ _ _ _ | exact Kd.S_nil _ _ _ _ _, by repeat (first | (with_reducible first | exact HB.out | apply below_alloc | apply pw_below_drewN | apply below_drew1) | exact HB.out)⟩
                · replace c20 := Bool.eq_false_iff.mpr c20
                  subst c20
                  have H1 : (if (bt x0_1 0) = 10 then (if x5_1.length < 4398046511104 then ((ridgewayref11_letter.f (bt x0_1 0)).bind fun t126 => (if 0 ≤ t121 then (if t121 ≤ (x0_1.size : Int) then (ridgewayref11_All.l0 kj6 (x0_1.extract (t121 : Int).toNat x0_1.size) (x5_1 ++ [(⟨1, x6_1, (⟨#[]⟩ : ByteArray)⟩ : S32)]) (wrap64 (x6_1 + 1)) false t126) else (none)) else (none))) else (none)) else (if x7_1 = true then (if 0 ≤ t121 then (if t121 ≤ (x0_1.size : Int) then (ridgewayref11_All.l0 kj6 (x0_1.extract (t121 : Int).toNat x0_1.size) x5_1 (wrap64 (x6_1 + 1)) x7_1 false) else (none)) else (none)) else (if (bt x0_1 0) = 35 then (if 0 ≤ t121 then (if t121 ≤ (x0_1.size : Int) then (ridgewayref11_All.l0 kj6 (x0_1.extract (t121 : Int).toNat x0_1.size) x5_1 (wrap64 (x6_1 + 1)) true false) else (none)) else (none)) else ((ridgewayref11_letter.f (bt x0_1 0)).bind fun t127 => (if t127 = true then (ridgewayref11_All.j2 kj6 x0_1 x5_1 x6_1 x7_1 t121 (bt x0_1 0) x8_1) else (ridgewayref11_All.j2 kj6 x0_1 x5_1 x6_1 x7_1 t121 (bt x0_1 0) false)))))) = some (r1, r2, r3) := by rw [if_neg (show ¬ (false = true) by decide)] at H; exact H
                  clear H
                  have H := H1
                  clear H1
                  by_cases c21 : (bt x0_1 0) = 10
                  · rw [if_pos c21] at H
                    have c21b0 : ((bt x0_1 0) == 10) = true := beq_iff_eq.mpr c21
                    have c21b1 : ((bt x0_1 0) != 10) = false := bne_eq_false_iff_eq.mpr c21
                    clear c21
                    by_cases c22 : x5_1.length < 4398046511104
                    · rw [if_pos c22] at H
                      have LMc22 := Aside0.mk c22
                      clear c22
                      obtain ⟨y123, hy123⟩ : ∃ y_ : List (S32), y_ = (x5_1 ++ [(⟨1, x6_1, (⟨#[]⟩ : ByteArray)⟩ : S32)]) := ⟨_, rfl⟩
                      replace H : ((ridgewayref11_letter.f (bt x0_1 0)).bind fun t126 => (if 0 ≤ t121 then (if t121 ≤ (x0_1.size : Int) then (ridgewayref11_All.l0 kj6 (x0_1.extract (t121 : Int).toNat x0_1.size) y123 (wrap64 (x6_1 + 1)) false t126) else (none)) else (none))) = some (r1, r2, r3) := by first | (rw [hy123]; with_reducible exact H) | (have H2_ := (Option.bind_some _ _).symm.trans H; rw [hy123]; with_reducible exact H2_) | (have H2_ := (Option.bind_some _ _).symm.trans H; with_reducible exact H2_) | with_reducible exact H | (rw [hy123]; exact H) | exact H
                      have Ny123 := Aside0.mk hy123
                      clear hy123
                      replace H := Option.bind_eq_some_iff.mp H
                      obtain ⟨t126, A230, H⟩ := H
                      replace H : (if 0 ≤ t121 then (if t121 ≤ (x0_1.size : Int) then (ridgewayref11_All.l0 kj6 (x0_1.extract (t121 : Int).toNat x0_1.size) y123 (wrap64 (x6_1 + 1)) false t126) else (none)) else (none)) = some (r1, r2, r3) := H
                      have A23 := Aside0.mk A230
                      clear A230
                      by_cases c24 : 0 ≤ t121
                      · rw [if_pos c24] at H
                        have c24b0 := eq_true c24
                        have c24b1 : decide (0 ≤ t121) = true := decide_eq_true c24
                        clear c24
                        by_cases c25 : t121 ≤ (x0_1.size : Int)
                        · rw [if_pos c25] at H
                          have c25b0 := eq_true c25
                          have c25b1 : decide (t121 ≤ (x0_1.size : Int)) = true := decide_eq_true c25
                          clear c25
                          have H' := Aside0.mk H
                          clear H
                          go_wp2_with (first | ((with_reducible refine gate_builtin (b := .append) (xs := #[.tmp 64, .tmp 67]) rfl ?_); at_builtin; refine Kd.R_append k32 (w0 := w) w.heap.size rfl (.tmp 64) (.tmp 67) 22 32 (.agg #[(.int .i64 0), (.int .i64 0), (.string ⟨#[]⟩)]) 32 rfl Tryd.underlying22 info32 rfl (by decide) (by omega) u5 x5_1 (⟨1, x6_1, (⟨#[]⟩ : ByteArray)⟩ : S32) [.int .i64 1, .int .i64 x6_1, .string (⟨#[]⟩ : ByteArray)] (fun _ => True) (fun _ => False) rfl rfl ?aP (fun _ hk => hk.elim) ?aF ?aO ?aB ?aS ?aL ?_; (case aP => exact k32_mkM _ _ _ (⟨1, x6_1, (⟨#[]⟩ : ByteArray)⟩ : S32)); (case aB => exact (by repeat (first | (with_reducible first | exact HB.out | apply below_alloc | apply pw_below_drewN | apply below_drew1) | exact HB.out))); (case aF => exact (fun _ _ => trivial)); (case aO => exact (by (with_reducible repeat (first | apply Kd.R_alloc | apply Kd.R_drewN | apply Kd.R_drew)); exact HO_5.out)); (case aS => exact (below_size (by repeat (first | (with_reducible first | exact HB.out | apply below_alloc | apply pw_below_drewN | apply below_drew1) | exact HB.out)))); (case aL => have := LMc22.out; omega); intro v124 w26 ho hb hg hat; rw [← Ny123.out] at ho; have n0_ := Aside0.mk (hb); have n1_ := Aside0.mk (ho); clear HB; clear HO_5; have HB := n0_; have HO125 := n1_; clear n0_ n1_; clear ho hb hg hat) | (go_at_call 19; (with_reducible refine (ridgewayref11_letter.calls (bt x0_1 0) t126 _ A23.out).mono ?_); rintro e w' ⟨rfl, ⟨nd, rfl⟩⟩))
                          go_roundg kj6
                          case measure => have := HK1.out; have := HJ6.out; omega
                          case rel => exact ⟨(x0_1.extract (t121 : Int).toNat x0_1.size), (y123), (wrap64 (x6_1 + 1)), (false), (t126), (by first | rfl | (simp; done) | (simp [*]; done)), (by first | rfl | (simp; done) | (simp [*]; done)), (by first | rfl | (simp; done) | (simp [*]; done)), (by first | rfl | (simp; done) | (simp [*]; done)), H', ⟨by have := HK1.out; have := HJ6.out; omega⟩, ⟨by (with_reducible repeat (first | apply Kd.R_alloc | apply Kd.R_drewN | apply Kd.R_drew)); exact HO125.out⟩, ⟨by repeat (first | (with_reducible first | exact HB.out | apply below_alloc | apply pw_below_drewN | apply below_drew1) | exact HB.out)⟩⟩
                        · rw [if_neg c25] at H
                          exact absurd H (by simp)
                      · rw [if_neg c24] at H
                        exact absurd H (by simp)
                    · rw [if_neg c22] at H
                      exact absurd H (by simp)
                  · rw [if_neg c21] at H
                    have c21b0 : ((bt x0_1 0) == 10) = false := beq_eq_false_iff_ne.mpr c21
                    have c21b1 : ((bt x0_1 0) != 10) = true := bne_iff_ne.mpr c21
                    by_cases c27 : x7_1 = true
                    · subst c27
                      have H1 : (if 0 ≤ t121 then (if t121 ≤ (x0_1.size : Int) then (ridgewayref11_All.l0 kj6 (x0_1.extract (t121 : Int).toNat x0_1.size) x5_1 (wrap64 (x6_1 + 1)) true false) else (none)) else (none)) = some (r1, r2, r3) := by rw [if_pos rfl] at H; exact H
                      clear H
                      have H := H1
                      clear H1
                      by_cases c28 : 0 ≤ t121
                      · rw [if_pos c28] at H
                        have c28b0 := eq_true c28
                        have c28b1 : decide (0 ≤ t121) = true := decide_eq_true c28
                        clear c28
                        by_cases c29 : t121 ≤ (x0_1.size : Int)
                        · rw [if_pos c29] at H
                          have c29b0 := eq_true c29
                          have c29b1 : decide (t121 ≤ (x0_1.size : Int)) = true := decide_eq_true c29
                          clear c29
                          have H' := Aside0.mk H
                          clear H
                          go_wp2
                          go_roundg kj6
                          case measure => have := HK1.out; have := HJ6.out; omega
                          case rel => exact ⟨(x0_1.extract (t121 : Int).toNat x0_1.size), (x5_1), (wrap64 (x6_1 + 1)), (true), (false), (by first | rfl | (simp; done) | (simp [*]; done)), (by first | rfl | (simp; done) | (simp [*]; done)), (by first | rfl | (simp; done) | (simp [*]; done)), (by first | rfl | (simp; done) | (simp [*]; done)), H', ⟨by have := HK1.out; have := HJ6.out; omega⟩, ⟨by (with_reducible repeat (first | apply Kd.R_alloc | apply Kd.R_drewN | apply Kd.R_drew)); exact HO_5.out⟩, ⟨by repeat (first | (with_reducible first | exact HB.out | apply below_alloc | apply pw_below_drewN | apply below_drew1) | exact HB.out)⟩⟩
                        · rw [if_neg c29] at H
                          exact absurd H (by simp)
                      · rw [if_neg c28] at H
                        exact absurd H (by simp)
                    · replace c27 := Bool.eq_false_iff.mpr c27
                      subst c27
                      have H1 : (if (bt x0_1 0) = 35 then (if 0 ≤ t121 then (if t121 ≤ (x0_1.size : Int) then (ridgewayref11_All.l0 kj6 (x0_1.extract (t121 : Int).toNat x0_1.size) x5_1 (wrap64 (x6_1 + 1)) true false) else (none)) else (none)) else ((ridgewayref11_letter.f (bt x0_1 0)).bind fun t127 => (if t127 = true then (ridgewayref11_All.j2 kj6 x0_1 x5_1 x6_1 false t121 (bt x0_1 0) x8_1) else (ridgewayref11_All.j2 kj6 x0_1 x5_1 x6_1 false t121 (bt x0_1 0) false)))) = some (r1, r2, r3) := by rw [if_neg (show ¬ (false = true) by decide)] at H; exact H
                      clear H
                      have H := H1
                      clear H1
                      by_cases c30 : (bt x0_1 0) = 35
                      · rw [if_pos c30] at H
                        have c30b0 : ((bt x0_1 0) == 35) = true := beq_iff_eq.mpr c30
                        have c30b1 : ((bt x0_1 0) != 35) = false := bne_eq_false_iff_eq.mpr c30
                        clear c30
                        by_cases c31 : 0 ≤ t121
                        · rw [if_pos c31] at H
                          have c31b0 := eq_true c31
                          have c31b1 : decide (0 ≤ t121) = true := decide_eq_true c31
                          clear c31
                          by_cases c32 : t121 ≤ (x0_1.size : Int)
                          · rw [if_pos c32] at H
                            have c32b0 := eq_true c32
                            have c32b1 : decide (t121 ≤ (x0_1.size : Int)) = true := decide_eq_true c32
                            clear c32
                            have H' := Aside0.mk H
                            clear H
                            go_wp2
                            go_roundg kj6
                            case measure => have := HK1.out; have := HJ6.out; omega
                            case rel => exact ⟨(x0_1.extract (t121 : Int).toNat x0_1.size), (x5_1), (wrap64 (x6_1 + 1)), (true), (false), (by first | rfl | (simp; done) | (simp [*]; done)), (by first | rfl | (simp; done) | (simp [*]; done)), (by first | rfl | (simp; done) | (simp [*]; done)), (by first | rfl | (simp; done) | (simp [*]; done)), H', ⟨by have := HK1.out; have := HJ6.out; omega⟩, ⟨by (with_reducible repeat (first | apply Kd.R_alloc | apply Kd.R_drewN | apply Kd.R_drew)); exact HO_5.out⟩, ⟨by repeat (first | (with_reducible first | exact HB.out | apply below_alloc | apply pw_below_drewN | apply below_drew1) | exact HB.out)⟩⟩
                          · rw [if_neg c32] at H
                            exact absurd H (by simp)
                        · rw [if_neg c31] at H
                          exact absurd H (by simp)
                      · rw [if_neg c30] at H
                        have c30b0 : ((bt x0_1 0) == 35) = false := beq_eq_false_iff_ne.mpr c30
                        have c30b1 : ((bt x0_1 0) != 35) = true := bne_iff_ne.mpr c30
                        have HC33 := Aside0.mk H
                        clear H
                        go_upto_region 18 with (fail)
                        go_cut [74] (fun v74 wc => ∃ (kq : Nat) (x74_32 : Bool), v74 = .bool x74_32 ∧ Aside0 (ridgewayref11_All.j2 kq x0_1 x5_1 x6_1 false t121 (bt x0_1 0) x74_32 = some (r1, r2, r3)) ∧ Aside0 (kq ≤ kj6) ∧ Aside0 (Kd.R k32 32 wc w.heap.size (fun _ => True) u5 x5_1) ∧ Aside0 (Below w.heap.size w wc))
                        case first =>
                          have H := HC33.out
                          clear HC33
                          replace H := Option.bind_eq_some_iff.mp H
                          obtain ⟨t127, A340, H⟩ := H
                          replace H : (if t127 = true then (ridgewayref11_All.j2 kj6 x0_1 x5_1 x6_1 false t121 (bt x0_1 0) x8_1) else (ridgewayref11_All.j2 kj6 x0_1 x5_1 x6_1 false t121 (bt x0_1 0) false)) = some (r1, r2, r3) := H
                          have A34 := Aside0.mk A340
                          clear A340
                          by_cases c35 : t127 = true
                          · subst c35
                            have H1 : (ridgewayref11_All.j2 kj6 x0_1 x5_1 x6_1 false t121 (bt x0_1 0) x8_1) = some (r1, r2, r3) := by rw [if_pos rfl] at H; exact H
                            clear H
                            have H := H1
                            clear H1
                            have H' := Aside0.mk H
                            clear H
                            go_wp2_with (first | ((with_reducible refine gate_callee (f := 19) rfl ?_); refine goesL_ (some 76) rfl rfl Tryd.func19 (by kernel_rfl) rfl #[.int .u8 (bt x0_1 0)] rfl (by (try simp only [List.map_toArray, List.map_cons, List.map_nil]); first | done | rfl | (simp only [List.length_drop, List.length_take]; rfl)) ?_; (with_reducible refine (ridgewayref11_letter.calls (bt x0_1 0) true _ A34.out).mono ?_); rintro e w' ⟨rfl, ⟨nd, rfl⟩⟩; refine ⟨_, rfl, ?_⟩))
                            go_meet
                            case rel => exact ⟨_, (x8_1), (by first | rfl | (simp; done) | (simp [*]; done)), H', ⟨by have := HK1.out; have := HJ6.out; first | omega | exact Nat.le_refl _⟩, ⟨by (with_reducible repeat (first | apply Kd.R_alloc | apply Kd.R_drewN | apply Kd.R_drew)); exact HO_5.out⟩, ⟨by repeat (first | (with_reducible first | exact HB.out | apply below_alloc | apply pw_below_drewN | apply below_drew1) | exact HB.out)⟩⟩
                          · replace c35 := Bool.eq_false_iff.mpr c35
                            subst c35
                            have H1 : (ridgewayref11_All.j2 kj6 x0_1 x5_1 x6_1 false t121 (bt x0_1 0) false) = some (r1, r2, r3) := by rw [if_neg (show ¬ (false = true) by decide)] at H; exact H
                            clear H
                            have H := H1
                            clear H1
                            have H' := Aside0.mk H
                            clear H
                            go_wp2_with (first | ((with_reducible refine gate_callee (f := 19) rfl ?_); refine goesL_ (some 76) rfl rfl Tryd.func19 (by kernel_rfl) rfl #[.int .u8 (bt x0_1 0)] rfl (by (try simp only [List.map_toArray, List.map_cons, List.map_nil]); first | done | rfl | (simp only [List.length_drop, List.length_take]; rfl)) ?_; (with_reducible refine (ridgewayref11_letter.calls (bt x0_1 0) false _ A34.out).mono ?_); rintro e w' ⟨rfl, ⟨nd, rfl⟩⟩; refine ⟨_, rfl, ?_⟩))
                            go_meet
                            case rel => exact ⟨_, (false), (by first | rfl | (simp; done) | (simp [*]; done)), H', ⟨by have := HK1.out; have := HJ6.out; first | omega | exact Nat.le_refl _⟩, ⟨by (with_reducible repeat (first | apply Kd.R_alloc | apply Kd.R_drewN | apply Kd.R_drew)); exact HO_5.out⟩, ⟨by repeat (first | (with_reducible first | exact HB.out | apply below_alloc | apply pw_below_drewN | apply below_drew1) | exact HB.out)⟩⟩
                        case rest =>
                          clear HC33
                          try clear c1
                          try clear c2
                          try clear c2b0
                          try clear c2b1
                          try clear p2
                          try clear c3
                          try clear c3b0
                          try clear c3b1
                          try clear c5
                          try clear c5b0
                          try clear c5b1
                          try clear p6
                          try clear q6
                          try clear hx6
                          try clear qi6
                          try clear c9
                          try clear c9b0
                          try clear c9b1
                          try clear c10
                          try clear c10b0
                          try clear c11
                          try clear c12
                          try clear c12b0
                          try clear c12b1
                          try clear c13
                          try clear c13b0
                          try clear c13b1
                          try clear c14
                          try clear c16
                          try clear c17
                          try clear c17b0
                          try clear c17b1
                          try clear c18
                          try clear c18b0
                          try clear c18b1
                          try clear c19
                          try clear c19b0
                          try clear c19b1
                          try clear c20
                          try clear c21
                          try clear c21b0
                          try clear c21b1
                          try clear c22
                          try clear c24
                          try clear c24b0
                          try clear c24b1
                          try clear c25
                          try clear c25b0
                          try clear c25b1
                          try clear c27
                          try clear c28
                          try clear c28b0
                          try clear c28b1
                          try clear c29
                          try clear c29b0
                          try clear c29b1
                          try clear c30
                          try clear c30b0
                          try clear c30b1
                          try clear c31
                          try clear c31b0
                          try clear c31b1
                          try clear c32
                          try clear c32b0
                          try clear c32b1
                          try clear c35
                          try clear p2
                          try clear p6
                          try clear q6
                          obtain ⟨kq, x74_32, rfl, HA, HJ32, HO_5, HB⟩ := hcut
                          cases kq with
                          | zero => exact absurd HA.out (by simp [ridgewayref11_All.j2])
                          | succ kj32 =>
                            have H := HA.out
                            clear HA
                            simp only [ridgewayref11_All.j2] at H
                            by_cases c36 : x74_32 = true
                            · subst c36
                              have H1 : (if 0 ≤ (wrap64 ((x5_1.length : Int) - 1)) then (if (wrap64 ((x5_1.length : Int) - 1)) < (x5_1.length : Int) then (if 0 ≤ 1 then (if 1 ≤ (x0_1.size : Int) then (if ((rd_T32 x5_1 (wrap64 ((x5_1.length : Int) - 1))).f2).size + (x0_1.extract 0 1).size ≤ 9223372036854775807 then ((some (x5_1.set ((wrap64 ((x5_1.length : Int) - 1)) : Int).toNat (⟨(rd_T32 x5_1 (wrap64 ((x5_1.length : Int) - 1))).f0, (rd_T32 x5_1 (wrap64 ((x5_1.length : Int) - 1))).f1, ((rd_T32 x5_1 (wrap64 ((x5_1.length : Int) - 1))).f2) ++ (x0_1.extract 0 1)⟩ : S32) : List (S32))).bind fun y129 => (if false = true then (if 0 ≤ t121 then (if t121 ≤ (x0_1.size : Int) then (ridgewayref11_All.l0 kj32 (x0_1.extract (t121 : Int).toNat x0_1.size) y129 (wrap64 (x6_1 + 1)) false false) else (none)) else (none)) else ((ridgewayref11_letter.f (bt x0_1 0)).bind fun t130 => (if 0 ≤ t121 then (if t121 ≤ (x0_1.size : Int) then (ridgewayref11_All.l0 kj32 (x0_1.extract (t121 : Int).toNat x0_1.size) y129 (wrap64 (x6_1 + 1)) false t130) else (none)) else (none))))) else (none)) else (none)) else (none)) else (none)) else (none)) = some (r1, r2, r3) := by rw [if_pos rfl] at H; exact H
                              clear H
                              have H := H1
                              clear H1
                              obtain ⟨ji37, hji37⟩ : ∃ j_ : Int, (wrap64 ((x5_1.length : Int) - 1)) = j_ := ⟨_, rfl⟩
                              replace H : (if 0 ≤ (ji37) then (if (ji37) < (x5_1.length : Int) then (if 0 ≤ 1 then (if 1 ≤ (x0_1.size : Int) then (if ((rd_T32 x5_1 (ji37)).f2).size + (x0_1.extract 0 1).size ≤ 9223372036854775807 then ((some (x5_1.set ((ji37) : Int).toNat (⟨(rd_T32 x5_1 (ji37)).f0, (rd_T32 x5_1 (ji37)).f1, ((rd_T32 x5_1 (ji37)).f2) ++ (x0_1.extract 0 1)⟩ : S32) : List (S32))).bind fun y129 => (if false = true then (if 0 ≤ t121 then (if t121 ≤ (x0_1.size : Int) then (ridgewayref11_All.l0 kj32 (x0_1.extract (t121 : Int).toNat x0_1.size) y129 (wrap64 (x6_1 + 1)) false false) else (none)) else (none)) else ((ridgewayref11_letter.f (bt x0_1 0)).bind fun t130 => (if 0 ≤ t121 then (if t121 ≤ (x0_1.size : Int) then (ridgewayref11_All.l0 kj32 (x0_1.extract (t121 : Int).toNat x0_1.size) y129 (wrap64 (x6_1 + 1)) false t130) else (none)) else (none))))) else (none)) else (none)) else (none)) else (none)) else (none)) = some (r1, r2, r3) := by first | (rw [hji37] at H; exact H) | (simp only [hji37] at H ⊢; exact H)
                              have hji37w : (IntKind.i64.wrap ((x5_1.length : Int) - 1)) = ji37 := (i64_w _).trans hji37
                              by_cases c38 : 0 ≤ (ji37)
                              · rw [if_pos c38] at H
                                have c38b0 : decide (0 ≤ (ji37)) = true := decide_eq_true c38
                                clear c38
                                by_cases c39 : (ji37) < (x5_1.length : Int)
                                · rw [if_pos c39] at H
                                  have c39b0 : decide ((ji37) < (x5_1.length : Int)) = true := decide_eq_true c39
                                  clear c39
                                  by_cases c40 : 0 ≤ 1
                                  · rw [if_pos c40] at H
                                    have c40b0 := eq_true c40
                                    have c40b1 : decide (0 ≤ 1) = true := decide_eq_true c40
                                    clear c40
                                    by_cases c41 : 1 ≤ (x0_1.size : Int)
                                    · rw [if_pos c41] at H
                                      have c41b0 := eq_true c41
                                      have c41b1 : decide (1 ≤ (x0_1.size : Int)) = true := decide_eq_true c41
                                      clear c41
                                      by_cases c42 : ((rd_T32 x5_1 (ji37)).f2).size + (x0_1.extract 0 1).size ≤ 9223372036854775807
                                      · rw [if_pos c42] at H
                                        have c42b0 := eq_true c42
                                        have c42b1 : decide (((rd_T32 x5_1 (ji37)).f2).size + (x0_1.extract 0 1).size ≤ 9223372036854775807) = true := decide_eq_true c42
                                        try have c42b2 : (9223372036854775807 < ((rd_T32 x5_1 (ji37)).f2).size + (x0_1.extract 0 1).size) = False := eq_false (Nat.not_lt.2 c42)
                                        try (have c42b3 := c42b2; simp only [ByteArray.size_extract, Nat.sub_zero] at c42b3)
                                        obtain ⟨y129, hy129⟩ : ∃ y_ : List (S32), y_ = (x5_1.set ((ji37) : Int).toNat (⟨(rd_T32 x5_1 (ji37)).f0, (rd_T32 x5_1 (ji37)).f1, ((rd_T32 x5_1 (ji37)).f2) ++ (x0_1.extract 0 1)⟩ : S32)) := ⟨_, rfl⟩
                                        replace H : (if false = true then (if 0 ≤ t121 then (if t121 ≤ (x0_1.size : Int) then (ridgewayref11_All.l0 kj32 (x0_1.extract (t121 : Int).toNat x0_1.size) y129 (wrap64 (x6_1 + 1)) false false) else (none)) else (none)) else ((ridgewayref11_letter.f (bt x0_1 0)).bind fun t130 => (if 0 ≤ t121 then (if t121 ≤ (x0_1.size : Int) then (ridgewayref11_All.l0 kj32 (x0_1.extract (t121 : Int).toNat x0_1.size) y129 (wrap64 (x6_1 + 1)) false t130) else (none)) else (none)))) = some (r1, r2, r3) := by first | (rw [hy129]; with_reducible exact H) | (have H2_ := (Option.bind_some _ _).symm.trans H; rw [hy129]; with_reducible exact H2_) | (have H2_ := (Option.bind_some _ _).symm.trans H; with_reducible exact H2_) | with_reducible exact H | (rw [hy129]; exact H) | exact H
                                        have Ny129 := Aside0.mk hy129
                                        clear hy129
                                        have H1 : ((ridgewayref11_letter.f (bt x0_1 0)).bind fun t130 => (if 0 ≤ t121 then (if t121 ≤ (x0_1.size : Int) then (ridgewayref11_All.l0 kj32 (x0_1.extract (t121 : Int).toNat x0_1.size) y129 (wrap64 (x6_1 + 1)) false t130) else (none)) else (none))) = some (r1, r2, r3) := by rw [if_neg (show ¬ (false = true) by decide)] at H; exact H
                                        clear H
                                        have H := H1
                                        clear H1
                                        replace H := Option.bind_eq_some_iff.mp H
                                        obtain ⟨t130, A440, H⟩ := H
                                        replace H : (if 0 ≤ t121 then (if t121 ≤ (x0_1.size : Int) then (ridgewayref11_All.l0 kj32 (x0_1.extract (t121 : Int).toNat x0_1.size) y129 (wrap64 (x6_1 + 1)) false t130) else (none)) else (none)) = some (r1, r2, r3) := H
                                        have A44 := Aside0.mk A440
                                        clear A440
                                        by_cases c45 : 0 ≤ t121
                                        · rw [if_pos c45] at H
                                          have c45b0 := eq_true c45
                                          have c45b1 : decide (0 ≤ t121) = true := decide_eq_true c45
                                          clear c45
                                          by_cases c46 : t121 ≤ (x0_1.size : Int)
                                          · rw [if_pos c46] at H
                                            have c46b0 := eq_true c46
                                            have c46b1 : decide (t121 ≤ (x0_1.size : Int)) = true := decide_eq_true c46
                                            clear c46
                                            have H' := Aside0.mk H
                                            clear H
                                            try go_wp2
                                            have n0_ := Aside0.mk (Kd.R_drew HO_5.out)
                                            have n1_ := Aside0.mk (below_drew1 HB.out)
                                            clear HO_5
                                            clear HB
                                            have HO_5 := n0_
                                            have HB := n1_
                                            clear n0_ n1_
                                            obtain ⟨Ao48, co48, eo48⟩ := Kd.R_slice HO_5.out
                                            (first | subst eo48 | (injection eo48 with f1_ f2_ f3_; have f4_ := f1_.symm; have f5_ := f3_.symm; clear f1_ f2_ f3_; subst f4_; subst f5_))
                                            have p128 : 0 ≤ ((ji37) : Int) := of_decide_eq_true (by first | (with_reducible assumption) | assumption)
                                            have q128 : (ji37) < (x5_1.length : Int) := of_decide_eq_true (by first | (with_reducible assumption) | assumption)
                                            obtain ⟨ad128, e128, hx128_0, hx128_1, hx128_2⟩ := at_T32 (Kd.R_reads' HO_5.out).2.2 (ji37) p128 q128
                                            cases e128
                                            replace p128 := eq_true p128
                                            replace q128 := eq_true q128
                                            have p43 : 0 ≤ ((ji37) : Int) := of_decide_eq_true (by first | (with_reducible assumption) | assumption)
                                            have q43 : ((ji37) : Int) < ((x5_1.length : Int) : Int) := of_decide_eq_true (by first | (with_reducible assumption) | assumption)
                                            obtain ⟨go43, co43, eo43, gb43, gl43, cl43, HG43⟩ := Kd.R_form HO_5.out (by omega)
                                            (first | cases eo43 | (injection eo43 with ea_ en_ ec_; (first | subst ea_ | (injection ea_ with ea_; subst ea_)); subst ec_; clear en_))
                                            have GB43 := Aside0.mk gb43
                                            have GG43 := Aside0.mk HG43
                                            clear gb43 gl43 HG43
                                            (first | simp only [add_plain] at hx128_0 | skip)
                                            (first | simp only [add_plain] at hx128_1 | skip)
                                            (first | simp only [add_plain] at hx128_2 | skip)
                                            obtain ⟨ce43, hcl43, hM43, hcc43, hfr43⟩ := Kd.R_elem HO_5.out z32 ((ji37) : Int) p43 q43
                                            obtain rfl := k32_openM hM43
                                            have hx43_0 : World.cell? _ ⟨go43, ((ji37) : Int).toNat * 3, none⟩ = some (.int .i64 ((rd_T32 x5_1 (ji37)).f0)) := hcc43 0 _ rfl
                                            have hx43_1 : World.cell? _ ⟨go43, ((ji37) : Int).toNat * 3 + 1, none⟩ = some (.int .i64 ((rd_T32 x5_1 (ji37)).f1)) := hcc43 1 _ rfl
                                            have hx43_2 : World.cell? _ ⟨go43, ((ji37) : Int).toNat * 3 + 2, none⟩ = some (.string ((rd_T32 x5_1 (ji37)).f2)) := hcc43 2 _ rfl
                                            have hf43_0 : World.frozen? _ ⟨go43, ((ji37) : Int).toNat * 3, none⟩ = false := hfr43 0
                                            have hf43_1 : World.frozen? _ ⟨go43, ((ji37) : Int).toNat * 3 + 1, none⟩ = false := hfr43 1
                                            have hf43_2 : World.frozen? _ ⟨go43, ((ji37) : Int).toNat * 3 + 2, none⟩ = false := hfr43 2
                                            clear hcl43 hcc43 hfr43 hM43
                                            replace p43 := eq_true p43
                                            replace q43 := eq_true q43
                                            obtain ⟨ce49, hcl49, hM49, hcc49, hfr49⟩ := Kd.R_elem HO_5.out z32 ((ji37) : Int) (of_decide_eq_true (by first | (with_reducible assumption) | assumption)) (by have h_ : ((ji37) : Int) < ((x5_1.length : Int) : Int) := of_decide_eq_true (by first | (with_reducible assumption) | assumption); first | exact h_ | (have e_ := (Kd.R_reads' HO_5.out).1; omega) | simpa using h_)
                                            obtain rfl := k32_openM hM49
                                            have HP49 := (Kd.R_seg HO_5.out ((ji37) : Int) (of_decide_eq_true (by first | (with_reducible assumption) | assumption)) (by have h_ : ((ji37) : Int) < ((x5_1.length : Int) : Int) := of_decide_eq_true (by first | (with_reducible assumption) | assumption); first | exact h_ | (have e_ := (Kd.R_reads' HO_5.out).1; omega) | simpa using h_) (seg := [.string (((rd_T32 x5_1 (ji37)).f2) ++ (x0_1.extract 0 1))]) (j := 2) hcl49 hcc49 (show 3 ≤ 3 from by decide) (x' := (⟨(rd_T32 x5_1 (ji37)).f0, (rd_T32 x5_1 (ji37)).f1, ((rd_T32 x5_1 (ji37)).f2) ++ (x0_1.extract 0 1)⟩ : S32)) (k32_mkM _ _ _ (⟨(rd_T32 x5_1 (ji37)).f0, (rd_T32 x5_1 (ji37)).f1, ((rd_T32 x5_1 (ji37)).f2) ++ (x0_1.extract 0 1)⟩ : S32) ) (fun _ hk => hk)).1
                                            rw [← Ny129.out] at HP49
                                            have HQ49 := Aside0.mk HP49
                                            clear hcl49 hcc49 hfr49 hM49 HP49
                                            refine start_ (n := 17) (S := fun w' => w'.cell? ⟨go43, (((ji37)).toNat * 3), none⟩ = some (.int .i64 ((rd_T32 x5_1 (ji37)).f0)) ∧ w'.cell? ⟨go43, (((ji37)).toNat * 3) + 1, none⟩ = some (.int .i64 ((rd_T32 x5_1 (ji37)).f1)) ∧ w'.cell? ⟨go43, (((ji37)).toNat * 3) + 2, none⟩ = some (.string ((rd_T32 x5_1 (ji37)).f2))) (ds := [16]) #[false, false, false, false, false, false, false, false, false, false, false, false, false, false, false, false, false] (by kernel_rfl) rfl rfl ⟨hx128_0, hx128_1, hx128_2⟩ (fun hHeld => ?_); refine with_tabW ridgewayref11_All.tab19 ridgewayref11_All.bits19 (fun HT_ HW_ => ?_)
                                            generalize wc.drew = w47 at HO_5 HB GG43 HQ49 hf43_0 hf43_1 hf43_2 hx128_0 hx128_1 hx128_2 hx43_0 hx43_1 hx43_2 hHeld ⊢
                                            refine pure_ (i := 0) (N := some 80) (v := ?_) (a' := ?_) #[true, false, false, false, false, false, false, false, false, false, false, false, false, false, false, false, false] rfl rfl (any_of HT_.out (by kernel_rfl)) (fun _ _ _ h => h) (Or.inl ⟨by rfl, ?_⟩) ?_ ?_
                                            rotate_left
                                            · intro w'
                                              go_simp
                                              with_reducible rfl
                                            rotate_left
                                            · simp only [Act.put, List.setIfInBounds_toArray, List.set_cons_zero, List.set_cons_succ, i64_w, i32_w]
                                              rfl
                                            refine pure_ (i := 1) (N := some 81) (v := ?_) (a' := ?_) #[true, true, false, false, false, false, false, false, false, false, false, false, false, false, false, false, false] rfl rfl (any_of HT_.out (by kernel_rfl)) (fun _ _ _ h => h) (Or.inl ⟨by rfl, ?_⟩) ?_ ?_
                                            rotate_left
                                            · intro w'
                                              go_simp
                                              with_reducible rfl
                                            rotate_left
                                            · simp only [Act.put, List.setIfInBounds_toArray, List.set_cons_zero, List.set_cons_succ, i64_w, i32_w]
                                              rfl
                                            refine pure_ (i := 2) (N := some 82) (v := ?_) (a' := ?_) #[true, true, true, false, false, false, false, false, false, false, false, false, false, false, false, false, false] rfl rfl (any_of HT_.out (by kernel_rfl)) (fun _ _ _ h => h) (Or.inl ⟨by rfl, ?_⟩) ?_ ?_
                                            rotate_left
                                            · intro w'
                                              go_simp
                                              with_reducible rfl
                                            rotate_left
                                            · simp only [Act.put, List.setIfInBounds_toArray, List.set_cons_zero, List.set_cons_succ, i64_w, i32_w]
                                              rfl
                                            refine pure_ (i := 3) (N := some 83) (v := ?_) (a' := ?_) #[true, true, true, true, false, false, false, false, false, false, false, false, false, false, false, false, false] rfl rfl (any_of HT_.out (by kernel_rfl)) (fun _ _ _ h => h) (Or.inl ⟨by rfl, ?_⟩) ?_ ?_
                                            rotate_left
                                            · intro w'
                                              go_simp
                                              with_reducible rfl
                                            rotate_left
                                            · simp only [Act.put, List.setIfInBounds_toArray, List.set_cons_zero, List.set_cons_succ, i64_w, i32_w]
                                              rfl
                                            refine pure_ (i := 4) (N := some 84) (v := ?_) (a' := ?_) #[true, true, true, true, true, false, false, false, false, false, false, false, false, false, false, false, false] rfl rfl (any_of HT_.out (by kernel_rfl)) (fun _ _ _ h => h) (Or.inl ⟨by rfl, ?_⟩) ?_ ?_
                                            rotate_left
                                            · intro w'
                                              go_simp
                                              with_reducible rfl
                                            rotate_left
                                            · simp only [Act.put, List.setIfInBounds_toArray, List.set_cons_zero, List.set_cons_succ, i64_w, i32_w]
                                              rfl
                                            refine pure_ (i := 5) (N := some 85) (v := ?_) (a' := ?_) #[true, true, true, true, true, true, false, false, false, false, false, false, false, false, false, false, false] rfl rfl (any_of HT_.out (by kernel_rfl)) (fun _ _ _ h => h) (Or.inl ⟨by rfl, ?_⟩) ?_ ?_
                                            rotate_left
                                            · intro w'
                                              go_simp
                                              with_reducible rfl
                                            rotate_left
                                            · simp only [Act.put, List.setIfInBounds_toArray, List.set_cons_zero, List.set_cons_succ, i64_w, i32_w]
                                              rfl
                                            refine pure_ (i := 6) (N := some 86) (v := ?_) (a' := ?_) #[true, true, true, true, true, true, true, false, false, false, false, false, false, false, false, false, false] rfl rfl (any_of HT_.out (by kernel_rfl)) (fun _ _ _ h => h) (Or.inl ⟨by rfl, ?_⟩) ?_ ?_
                                            rotate_left
                                            · intro w'
                                              go_simp
                                              with_reducible rfl
                                            rotate_left
                                            · simp only [Act.put, List.setIfInBounds_toArray, List.set_cons_zero, List.set_cons_succ, i64_w, i32_w]
                                              rfl
                                            refine pure_ (i := 7) (N := some 87) (v := ?_) (a' := ?_) #[true, true, true, true, true, true, true, true, false, false, false, false, false, false, false, false, false] rfl rfl (any_of HT_.out (by kernel_rfl)) (fun _ _ _ h => h) (Or.inl ⟨by rfl, ?_⟩) ?_ ?_
                                            rotate_left
                                            · intro w'
                                              go_simp
                                              with_reducible rfl
                                            rotate_left
                                            · simp only [Act.put, List.setIfInBounds_toArray, List.set_cons_zero, List.set_cons_succ, i64_w, i32_w]
                                              rfl
                                            refine pure_ (i := 8) (N := some 88) (v := ?_) (a' := ?_) #[true, true, true, true, true, true, true, true, true, false, false, false, false, false, false, false, false] rfl rfl (any_of HT_.out (by kernel_rfl)) (fun _ _ _ h => h) (Or.inl ⟨by rfl, ?_⟩) ?_ ?_
                                            rotate_left
                                            · intro w'
                                              go_simp
                                              with_reducible rfl
                                            rotate_left
                                            · simp only [Act.put, List.setIfInBounds_toArray, List.set_cons_zero, List.set_cons_succ, i64_w, i32_w]
                                              rfl
                                            refine pure_ (i := 9) (N := some 89) (v := ?_) (a' := ?_) #[true, true, true, true, true, true, true, true, true, true, false, false, false, false, false, false, false] rfl rfl (any_of HT_.out (by kernel_rfl)) (fun _ _ _ h => h) (Or.inl ⟨by rfl, ?_⟩) ?_ ?_
                                            rotate_left
                                            · intro w'
                                              go_simp
                                              with_reducible rfl
                                            rotate_left
                                            · simp only [Act.put, List.setIfInBounds_toArray, List.set_cons_zero, List.set_cons_succ, i64_w, i32_w]
                                              rfl
                                            refine pure_ (i := 11) (N := some 91) (v := ?_) (a' := ?_) #[true, true, true, true, true, true, true, true, true, true, false, true, false, false, false, false, false] rfl rfl (any_of HT_.out (by kernel_rfl)) (fun _ _ _ h => h) (Or.inl ⟨by rfl, ?_⟩) ?_ ?_
                                            rotate_left
                                            · intro w'
                                              go_simp
                                              with_reducible rfl
                                            rotate_left
                                            · simp only [Act.put, List.setIfInBounds_toArray, List.set_cons_zero, List.set_cons_succ, i64_w, i32_w]
                                              rfl
                                            refine pure_ (i := 12) (N := some 92) (v := ?_) (a' := ?_) #[true, true, true, true, true, true, true, true, true, true, false, true, true, false, false, false, false] rfl rfl (any_of HT_.out (by kernel_rfl)) (fun _ _ _ h => h) (Or.inl ⟨by rfl, ?_⟩) ?_ ?_
                                            rotate_left
                                            · intro w'
                                              go_simp
                                              with_reducible rfl
                                            rotate_left
                                            · simp only [Act.put, List.setIfInBounds_toArray, List.set_cons_zero, List.set_cons_succ, i64_w, i32_w]
                                              rfl
                                            refine take_ (i := 10) (N := some 90) (v := ?_) (a' := ?_) #[true, true, true, true, true, true, true, true, true, true, true, true, true, false, false, false, false] rfl rfl (take_ofW HT_.out HW_.out (by kernel_rfl)) (fun _ _ _ h => h) (Or.inl ⟨by rfl, ?_⟩) hHeld ?_ ?_
                                            rotate_left
                                            · rintro w' ⟨s0, s1, s2⟩
                                              go_simp
                                              with_reducible rfl
                                            rotate_left
                                            · simp only [Act.put, List.setIfInBounds_toArray, List.set_cons_zero, List.set_cons_succ, i64_w, i32_w]
                                              rfl
                                            refine pure_ (i := 13) (N := some 93) (v := ?_) (a' := ?_) #[true, true, true, true, true, true, true, true, true, true, true, true, true, true, false, false, false] rfl rfl (any_of HT_.out (by kernel_rfl)) (fun _ _ _ h => h) (Or.inl ⟨by rfl, ?_⟩) ?_ ?_
                                            rotate_left
                                            · intro w'
                                              go_simp
                                              with_reducible rfl
                                            rotate_left
                                            · simp only [Act.put, List.setIfInBounds_toArray, List.set_cons_zero, List.set_cons_succ, i64_w, i32_w]
                                              rfl
                                            refine pure_ (i := 14) (N := some 94) (v := ?_) (a' := ?_) #[true, true, true, true, true, true, true, true, true, true, true, true, true, true, true, false, false] rfl rfl (any_of HT_.out (by kernel_rfl)) (fun _ _ _ h => h) (Or.inl ⟨by rfl, ?_⟩) ?_ ?_
                                            rotate_left
                                            · intro w'
                                              go_simp
                                              with_reducible rfl
                                            rotate_left
                                            · simp only [Act.put, List.setIfInBounds_toArray, List.set_cons_zero, List.set_cons_succ, i64_w, i32_w]
                                              rfl
                                            refine pure_ (i := 15) (N := some 95) (v := ?_) (a' := ?_) #[true, true, true, true, true, true, true, true, true, true, true, true, true, true, true, true, false] rfl rfl (any_of HT_.out (by kernel_rfl)) (fun _ _ _ h => h) (Or.inl ⟨by rfl, ?_⟩) ?_ ?_
                                            rotate_left
                                            · intro w'
                                              go_simp
                                              with_reducible rfl
                                            rotate_left
                                            · simp only [Act.put, List.setIfInBounds_toArray, List.set_cons_zero, List.set_cons_succ, i64_w, i32_w]
                                              rfl
                                            refine last_ (i := 16) (N := none) #[true, true, true, true, true, true, true, true, true, true, true, true, true, true, true, true, true] rfl rfl (one_of HT_.out (by kernel_rfl)) (by decide) (fun K hK => ?_)
                                            refine skip_ (w1 := ?_) (by rfl) rfl ?_ ?_
                                            rotate_left
                                            · go_simp
                                              rfl
                                            refine hK.out _ _ ?_
                                            clear hK K
                                            refine done_ (done_of HT_.out (by kernel_rfl)) ?_
                                            try go_wp2_with (first | (go_at_call 19; (with_reducible refine (ridgewayref11_letter.calls (bt x0_1 0) t130 _ A44.out).mono ?_); rintro e w' ⟨rfl, ⟨nd, rfl⟩⟩))
                                            go_roundg kj32
                                            case measure => have := HK1.out; have := HJ6.out; have := HJ32.out; omega
                                            case rel => exact ⟨(x0_1.extract (t121 : Int).toNat x0_1.size), (y129), (wrap64 (x6_1 + 1)), (false), (t130), (by first | rfl | (simp; done) | (simp [*]; done)), (by first | rfl | (simp; done) | (simp [*]; done)), (by first | rfl | (simp; done) | (simp [*]; done)), (by first | rfl | (simp; done) | (simp [*]; done)), H', ⟨by have := HK1.out; have := HJ6.out; have := HJ32.out; omega⟩, ⟨by (with_reducible repeat (first | apply Kd.R_alloc | apply Kd.R_drewN | apply Kd.R_drew)); exact HQ49.out⟩, ⟨by repeat (first | (with_reducible first | exact HB.out | apply below_alloc | apply pw_below_drewN | apply below_drew1 | refine below_set ?_ GB43.out) | exact HB.out)⟩⟩
                                          · rw [if_neg c46] at H
                                            exact absurd H (by simp)
                                        · rw [if_neg c45] at H
                                          exact absurd H (by simp)
                                      · rw [if_neg c42] at H
                                        exact absurd H (by simp)
                                    · rw [if_neg c41] at H
                                      exact absurd H (by simp)
                                  · rw [if_neg c40] at H
                                    exact absurd H (by simp)
                                · rw [if_neg c39] at H
                                  exact absurd H (by simp)
                              · rw [if_neg c38] at H
                                exact absurd H (by simp)
                            · replace c36 := Bool.eq_false_iff.mpr c36
                              subst c36
                              have H1 : ((ridgewayref11_letter.f (bt x0_1 0)).bind fun t131 => (if t131 = true then (if 0 ≤ 1 then (if 1 ≤ (x0_1.size : Int) then (if x5_1.length < 4398046511104 then ((some (x5_1 ++ [(⟨0, x6_1, x0_1.extract 0 1⟩ : S32)] : List (S32))).bind fun y132 => (if false = true then (if 0 ≤ t121 then (if t121 ≤ (x0_1.size : Int) then (ridgewayref11_All.l0 kj32 (x0_1.extract (t121 : Int).toNat x0_1.size) y132 (wrap64 (x6_1 + 1)) false false) else (none)) else (none)) else ((ridgewayref11_letter.f (bt x0_1 0)).bind fun t135 => (if 0 ≤ t121 then (if t121 ≤ (x0_1.size : Int) then (ridgewayref11_All.l0 kj32 (x0_1.extract (t121 : Int).toNat x0_1.size) y132 (wrap64 (x6_1 + 1)) false t135) else (none)) else (none))))) else (none)) else (none)) else (none)) else (if false = true then (if 0 ≤ t121 then (if t121 ≤ (x0_1.size : Int) then (ridgewayref11_All.l0 kj32 (x0_1.extract (t121 : Int).toNat x0_1.size) x5_1 (wrap64 (x6_1 + 1)) false false) else (none)) else (none)) else ((ridgewayref11_letter.f (bt x0_1 0)).bind fun t136 => (if 0 ≤ t121 then (if t121 ≤ (x0_1.size : Int) then (ridgewayref11_All.l0 kj32 (x0_1.extract (t121 : Int).toNat x0_1.size) x5_1 (wrap64 (x6_1 + 1)) false t136) else (none)) else (none)))))) = some (r1, r2, r3) := by rw [if_neg (show ¬ (false = true) by decide)] at H; exact H
                              clear H
                              have H := H1
                              clear H1
                              replace H := Option.bind_eq_some_iff.mp H
                              obtain ⟨t131, A500, H⟩ := H
                              replace H : (if t131 = true then (if 0 ≤ 1 then (if 1 ≤ (x0_1.size : Int) then (if x5_1.length < 4398046511104 then ((some (x5_1 ++ [(⟨0, x6_1, x0_1.extract 0 1⟩ : S32)] : List (S32))).bind fun y132 => (if false = true then (if 0 ≤ t121 then (if t121 ≤ (x0_1.size : Int) then (ridgewayref11_All.l0 kj32 (x0_1.extract (t121 : Int).toNat x0_1.size) y132 (wrap64 (x6_1 + 1)) false false) else (none)) else (none)) else ((ridgewayref11_letter.f (bt x0_1 0)).bind fun t135 => (if 0 ≤ t121 then (if t121 ≤ (x0_1.size : Int) then (ridgewayref11_All.l0 kj32 (x0_1.extract (t121 : Int).toNat x0_1.size) y132 (wrap64 (x6_1 + 1)) false t135) else (none)) else (none))))) else (none)) else (none)) else (none)) else (if false = true then (if 0 ≤ t121 then (if t121 ≤ (x0_1.size : Int) then (ridgewayref11_All.l0 kj32 (x0_1.extract (t121 : Int).toNat x0_1.size) x5_1 (wrap64 (x6_1 + 1)) false false) else (none)) else (none)) else ((ridgewayref11_letter.f (bt x0_1 0)).bind fun t136 => (if 0 ≤ t121 then (if t121 ≤ (x0_1.size : Int) then (ridgewayref11_All.l0 kj32 (x0_1.extract (t121 : Int).toNat x0_1.size) x5_1 (wrap64 (x6_1 + 1)) false t136) else (none)) else (none))))) = some (r1, r2, r3) := H
                              have A50 := Aside0.mk A500
                              clear A500
                              by_cases c51 : t131 = true
                              · subst c51
                                have H1 : (if 0 ≤ 1 then (if 1 ≤ (x0_1.size : Int) then (if x5_1.length < 4398046511104 then ((some (x5_1 ++ [(⟨0, x6_1, x0_1.extract 0 1⟩ : S32)] : List (S32))).bind fun y132 => (if false = true then (if 0 ≤ t121 then (if t121 ≤ (x0_1.size : Int) then (ridgewayref11_All.l0 kj32 (x0_1.extract (t121 : Int).toNat x0_1.size) y132 (wrap64 (x6_1 + 1)) false false) else (none)) else (none)) else ((ridgewayref11_letter.f (bt x0_1 0)).bind fun t135 => (if 0 ≤ t121 then (if t121 ≤ (x0_1.size : Int) then (ridgewayref11_All.l0 kj32 (x0_1.extract (t121 : Int).toNat x0_1.size) y132 (wrap64 (x6_1 + 1)) false t135) else (none)) else (none))))) else (none)) else (none)) else (none)) = some (r1, r2, r3) := by rw [if_pos rfl] at H; exact H
                                clear H
                                have H := H1
                                clear H1
                                by_cases c52 : 0 ≤ 1
                                · rw [if_pos c52] at H
                                  have c52b0 := eq_true c52
                                  have c52b1 : decide (0 ≤ 1) = true := decide_eq_true c52
                                  clear c52
                                  by_cases c53 : 1 ≤ (x0_1.size : Int)
                                  · rw [if_pos c53] at H
                                    have c53b0 := eq_true c53
                                    have c53b1 : decide (1 ≤ (x0_1.size : Int)) = true := decide_eq_true c53
                                    clear c53
                                    by_cases c54 : x5_1.length < 4398046511104
                                    · rw [if_pos c54] at H
                                      have LMc54 := Aside0.mk c54
                                      clear c54
                                      obtain ⟨y132, hy132⟩ : ∃ y_ : List (S32), y_ = (x5_1 ++ [(⟨0, x6_1, x0_1.extract 0 1⟩ : S32)]) := ⟨_, rfl⟩
                                      replace H : (if false = true then (if 0 ≤ t121 then (if t121 ≤ (x0_1.size : Int) then (ridgewayref11_All.l0 kj32 (x0_1.extract (t121 : Int).toNat x0_1.size) y132 (wrap64 (x6_1 + 1)) false false) else (none)) else (none)) else ((ridgewayref11_letter.f (bt x0_1 0)).bind fun t135 => (if 0 ≤ t121 then (if t121 ≤ (x0_1.size : Int) then (ridgewayref11_All.l0 kj32 (x0_1.extract (t121 : Int).toNat x0_1.size) y132 (wrap64 (x6_1 + 1)) false t135) else (none)) else (none)))) = some (r1, r2, r3) := by first | (rw [hy132]; with_reducible exact H) | (have H2_ := (Option.bind_some _ _).symm.trans H; rw [hy132]; with_reducible exact H2_) | (have H2_ := (Option.bind_some _ _).symm.trans H; with_reducible exact H2_) | with_reducible exact H | (rw [hy132]; exact H) | exact H
                                      have Ny132 := Aside0.mk hy132
                                      clear hy132
                                      have H1 : ((ridgewayref11_letter.f (bt x0_1 0)).bind fun t135 => (if 0 ≤ t121 then (if t121 ≤ (x0_1.size : Int) then (ridgewayref11_All.l0 kj32 (x0_1.extract (t121 : Int).toNat x0_1.size) y132 (wrap64 (x6_1 + 1)) false t135) else (none)) else (none))) = some (r1, r2, r3) := by rw [if_neg (show ¬ (false = true) by decide)] at H; exact H
                                      clear H
                                      have H := H1
                                      clear H1
                                      replace H : (if 0 ≤ t121 then (if t121 ≤ (x0_1.size : Int) then (ridgewayref11_All.l0 kj32 (x0_1.extract (t121 : Int).toNat x0_1.size) y132 (wrap64 (x6_1 + 1)) false true) else (none)) else (none)) = some (r1, r2, r3) := by rw [A50.out] at H; exact H
                                      by_cases c55 : 0 ≤ t121
                                      · rw [if_pos c55] at H
                                        have c55b0 := eq_true c55
                                        have c55b1 : decide (0 ≤ t121) = true := decide_eq_true c55
                                        clear c55
                                        by_cases c56 : t121 ≤ (x0_1.size : Int)
                                        · rw [if_pos c56] at H
                                          have c56b0 := eq_true c56
                                          have c56b1 : decide (t121 ≤ (x0_1.size : Int)) = true := decide_eq_true c56
                                          clear c56
                                          have H' := Aside0.mk H
                                          clear H
                                          go_wp2_with (first | ((with_reducible refine gate_callee (f := 19) rfl ?_); refine goesL_ (some 98) rfl rfl Tryd.func19 (by kernel_rfl) rfl #[.int .u8 (bt x0_1 0)] rfl (by (try simp only [List.map_toArray, List.map_cons, List.map_nil]); first | done | rfl | (simp only [List.length_drop, List.length_take]; rfl)) ?_; (with_reducible refine (ridgewayref11_letter.calls (bt x0_1 0) true _ A50.out).mono ?_); rintro e w' ⟨rfl, ⟨nd, rfl⟩⟩; refine ⟨_, rfl, ?_⟩) | ((with_reducible refine gate_builtin (b := .append) (xs := #[.tmp 99, .tmp 104]) rfl ?_); at_builtin; refine Kd.R_append k32 (w0 := w) w.heap.size rfl (.tmp 99) (.tmp 104) 22 32 (.agg #[(.int .i64 0), (.int .i64 0), (.string ⟨#[]⟩)]) 32 rfl Tryd.underlying22 info32 rfl (by decide) (by omega) u5 x5_1 (⟨0, x6_1, x0_1.extract 0 1⟩ : S32) [.int .i64 0, .int .i64 x6_1, .string (x0_1.extract 0 1)] (fun _ => True) (fun _ => False) rfl rfl ?aP (fun _ hk => hk.elim) ?aF ?aO ?aB ?aS ?aL ?_; (case aP => exact k32_mkM _ _ _ (⟨0, x6_1, x0_1.extract 0 1⟩ : S32)); (case aB => exact (by repeat (first | (with_reducible first | exact HB.out | apply below_alloc | apply pw_below_drewN | apply below_drew1) | exact HB.out))); (case aF => exact (fun _ _ => trivial)); (case aO => exact (by (with_reducible repeat (first | apply Kd.R_alloc | apply Kd.R_drewN | apply Kd.R_drew)); exact HO_5.out)); (case aS => exact (below_size (by repeat (first | (with_reducible first | exact HB.out | apply below_alloc | apply pw_below_drewN | apply below_drew1) | exact HB.out)))); (case aL => have := LMc54.out; omega); intro v133 w57 ho hb hg hat; rw [← Ny132.out] at ho; have n0_ := Aside0.mk (hb); have n1_ := Aside0.mk (ho); clear HB; clear HO_5; have HB := n0_; have HO134 := n1_; clear n0_ n1_; clear ho hb hg hat) | (go_at_call 19; (with_reducible refine (ridgewayref11_letter.calls (bt x0_1 0) true _ A50.out).mono ?_); rintro e w' ⟨rfl, ⟨nd, rfl⟩⟩))
                                          go_roundg kj32
                                          case measure => have := HK1.out; have := HJ6.out; have := HJ32.out; omega
                                          case rel => exact ⟨(x0_1.extract (t121 : Int).toNat x0_1.size), (y132), (wrap64 (x6_1 + 1)), (false), (true), (by first | rfl | (simp; done) | (simp [*]; done)), (by first | rfl | (simp; done) | (simp [*]; done)), (by first | rfl | (simp; done) | (simp [*]; done)), (by first | rfl | (simp; done) | (simp [*]; done)), H', ⟨by have := HK1.out; have := HJ6.out; have := HJ32.out; omega⟩, ⟨by (with_reducible repeat (first | apply Kd.R_alloc | apply Kd.R_drewN | apply Kd.R_drew)); exact HO134.out⟩, ⟨by repeat (first | (with_reducible first | exact HB.out | apply below_alloc | apply pw_below_drewN | apply below_drew1) | exact HB.out)⟩⟩
                                        · rw [if_neg c56] at H
                                          exact absurd H (by simp)
                                      · rw [if_neg c55] at H
                                        exact absurd H (by simp)
                                    · rw [if_neg c54] at H
                                      exact absurd H (by simp)
                                  · rw [if_neg c53] at H
                                    exact absurd H (by simp)
                                · rw [if_neg c52] at H
                                  exact absurd H (by simp)
                              · replace c51 := Bool.eq_false_iff.mpr c51
                                subst c51
                                have H1 : (if false = true then (if 0 ≤ t121 then (if t121 ≤ (x0_1.size : Int) then (ridgewayref11_All.l0 kj32 (x0_1.extract (t121 : Int).toNat x0_1.size) x5_1 (wrap64 (x6_1 + 1)) false false) else (none)) else (none)) else ((ridgewayref11_letter.f (bt x0_1 0)).bind fun t136 => (if 0 ≤ t121 then (if t121 ≤ (x0_1.size : Int) then (ridgewayref11_All.l0 kj32 (x0_1.extract (t121 : Int).toNat x0_1.size) x5_1 (wrap64 (x6_1 + 1)) false t136) else (none)) else (none)))) = some (r1, r2, r3) := by rw [if_neg (show ¬ (false = true) by decide)] at H; exact H
                                clear H
                                have H := H1
                                clear H1
                                have H1 : ((ridgewayref11_letter.f (bt x0_1 0)).bind fun t136 => (if 0 ≤ t121 then (if t121 ≤ (x0_1.size : Int) then (ridgewayref11_All.l0 kj32 (x0_1.extract (t121 : Int).toNat x0_1.size) x5_1 (wrap64 (x6_1 + 1)) false t136) else (none)) else (none))) = some (r1, r2, r3) := by rw [if_neg (show ¬ (false = true) by decide)] at H; exact H
                                clear H
                                have H := H1
                                clear H1
                                replace H : (if 0 ≤ t121 then (if t121 ≤ (x0_1.size : Int) then (ridgewayref11_All.l0 kj32 (x0_1.extract (t121 : Int).toNat x0_1.size) x5_1 (wrap64 (x6_1 + 1)) false false) else (none)) else (none)) = some (r1, r2, r3) := by rw [A50.out] at H; exact H
                                by_cases c58 : 0 ≤ t121
                                · rw [if_pos c58] at H
                                  have c58b0 := eq_true c58
                                  have c58b1 : decide (0 ≤ t121) = true := decide_eq_true c58
                                  clear c58
                                  by_cases c59 : t121 ≤ (x0_1.size : Int)
                                  · rw [if_pos c59] at H
                                    have c59b0 := eq_true c59
                                    have c59b1 : decide (t121 ≤ (x0_1.size : Int)) = true := decide_eq_true c59
                                    clear c59
                                    have H' := Aside0.mk H
                                    clear H
                                    go_wp2_with (first | ((with_reducible refine gate_callee (f := 19) rfl ?_); refine goesL_ (some 98) rfl rfl Tryd.func19 (by kernel_rfl) rfl #[.int .u8 (bt x0_1 0)] rfl (by (try simp only [List.map_toArray, List.map_cons, List.map_nil]); first | done | rfl | (simp only [List.length_drop, List.length_take]; rfl)) ?_; (with_reducible refine (ridgewayref11_letter.calls (bt x0_1 0) false _ A50.out).mono ?_); rintro e w' ⟨rfl, ⟨nd, rfl⟩⟩; refine ⟨_, rfl, ?_⟩) | (go_at_call 19; (with_reducible refine (ridgewayref11_letter.calls (bt x0_1 0) false _ A50.out).mono ?_); rintro e w' ⟨rfl, ⟨nd, rfl⟩⟩))
                                    go_roundg kj32
                                    case measure => have := HK1.out; have := HJ6.out; have := HJ32.out; omega
                                    case rel => exact ⟨(x0_1.extract (t121 : Int).toNat x0_1.size), (x5_1), (wrap64 (x6_1 + 1)), (false), (false), (by first | rfl | (simp; done) | (simp [*]; done)), (by first | rfl | (simp; done) | (simp [*]; done)), (by first | rfl | (simp; done) | (simp [*]; done)), (by first | rfl | (simp; done) | (simp [*]; done)), H', ⟨by have := HK1.out; have := HJ6.out; have := HJ32.out; omega⟩, ⟨by (with_reducible repeat (first | apply Kd.R_alloc | apply Kd.R_drewN | apply Kd.R_drew)); exact HO_5.out⟩, ⟨by repeat (first | (with_reducible first | exact HB.out | apply below_alloc | apply pw_below_drewN | apply below_drew1) | exact HB.out)⟩⟩
                                  · rw [if_neg c59] at H
                                    exact absurd H (by simp)
                                · rw [if_neg c58] at H
                                  exact absurd H (by simp)
          · rw [if_neg c5] at H
            exact absurd H (by simp)
        · rw [if_neg c3] at H
          have c3b0 : decide (0 < (x0_1.size : Int)) = false := decide_eq_false c3
          have c3b1 : decide (0 < x0_1.size) = false := decide_eq_false (by omega)
          clear c3
          by_cases c60 : x5_1.length < 4398046511104
          · rw [if_pos c60] at H
            have LMc60 := Aside0.mk c60
            clear c60
            obtain ⟨y118, hy118⟩ : ∃ y_ : List (S32), y_ = (x5_1 ++ [(⟨2, x6_1, (⟨#[]⟩ : ByteArray)⟩ : S32)]) := ⟨_, rfl⟩
            replace H : (some (y118, x6_1, 0)) = some (r1, r2, r3) := by first | (rw [hy118]; with_reducible exact H) | (have H2_ := (Option.bind_some _ _).symm.trans H; rw [hy118]; with_reducible exact H2_) | (have H2_ := (Option.bind_some _ _).symm.trans H; with_reducible exact H2_) | with_reducible exact H | (rw [hy118]; exact H) | exact H
            have Ny118 := Aside0.mk hy118
            clear hy118
            simp only [Option.some.injEq, Prod.mk.injEq] at H
            obtain ⟨rfl, rfl, rfl⟩ := H
            go_wp2_with (first | ((with_reducible refine gate_builtin (b := .append) (xs := #[.tmp 117, .tmp 120]) rfl ?_); at_builtin; refine Kd.R_append k32 (w0 := w) w.heap.size rfl (.tmp 117) (.tmp 120) 22 32 (.agg #[(.int .i64 0), (.int .i64 0), (.string ⟨#[]⟩)]) 32 rfl Tryd.underlying22 info32 rfl (by decide) (by omega) u5 x5_1 (⟨2, x6_1, (⟨#[]⟩ : ByteArray)⟩ : S32) [.int .i64 2, .int .i64 x6_1, .string (⟨#[]⟩ : ByteArray)] (fun _ => True) (fun _ => False) rfl rfl ?aP (fun _ hk => hk.elim) ?aF ?aO ?aB ?aS ?aL ?_; (case aP => exact k32_mkM _ _ _ (⟨2, x6_1, (⟨#[]⟩ : ByteArray)⟩ : S32)); (case aB => exact (by repeat (first | (with_reducible first | exact HB.out | apply below_alloc | apply pw_below_drewN | apply below_drew1) | exact HB.out))); (case aF => exact (fun _ _ => trivial)); (case aO => exact (by (with_reducible repeat (first | apply Kd.R_alloc | apply Kd.R_drewN | apply Kd.R_drew)); exact HO_5.out)); (case aS => exact (below_size (by repeat (first | (with_reducible first | exact HB.out | apply below_alloc | apply pw_below_drewN | apply below_drew1) | exact HB.out)))); (case aL => have := LMc60.out; omega); intro v119 w61 ho hb hg hat; rw [← Ny118.out] at ho; have n0_ := Aside0.mk (hb); have n1_ := Aside0.mk (ho); clear HB; clear HO_5; have HB := n0_; have HO120 := n1_; clear n0_ n1_; clear ho hb hg hat))
            go_ret3
            exact ⟨_, by first | rfl | (simp [errW_none, errW_some] <;> rfl) | (simp [*, errW_none, errW_some] <;> rfl), by (with_reducible repeat (first | apply Kd.R_alloc | apply Kd.R_drewN | apply Kd.R_drew)); exact HO120.out, by repeat (first | (with_reducible first | exact HB.out | apply below_alloc | apply pw_below_drewN | apply below_drew1) | exact HB.out)⟩
          · rw [if_neg c60] at H
            exact absurd H (by simp)

end Go.Proofs.YtmohglifmoecnaaDoor.PAll
