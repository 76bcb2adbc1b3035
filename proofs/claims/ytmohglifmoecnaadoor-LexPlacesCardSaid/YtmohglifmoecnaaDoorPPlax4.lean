-- Written by a program of this session's (wip/tools), out of the translation. Lean checks it.
import Derived.Test.YtmohglifmoecnaaDoorPPlax0
import Derived.Test.YtmohglifmoecnaaDoorPPlax2
import Derived.Test.YtmohglifmoecnaaDoorPPlax3
namespace Go.Proofs.YtmohglifmoecnaaDoor.PPla
open Go.RowKit Go.Proofs.YtmohglifmoecnaaDoorW.PrintWords Go.Proofs.YtmohglifmoecnaaDoorW.PrintLast Go.Proofs.YtmohglifmoecnaaDoorW.PrintMore
attribute [local go_sem] max2_int min2_int max_two min_two max_three min_three max_four min_four   -- for this text's walks alone
set_option linter.unusedVariables false
set_option linter.unusedSimpArgs false

/-! ### ridgewaylaw11_LexPlaces: function 5 -/
mutual
def ridgewaylaw11_LexPlaces.l0 : Nat → ByteArray → Bool → List (S32) → Int → Int → Int → Int → Option (Bool)
  | 0, _, _, _, _, _, _, _ => none
  | k + 1, x0, x3, x4, x5, x7, x8, x27 => if x27 < (x0.size : Int) then (if 0 ≤ x27 then (if x27 ≤ (x0.size : Int) then ((utf8_DecodeRuneInString.f (x0.extract (x27 : Int).toNat x0.size)).bind fun bt125 => (ridgewaylaw11_LexPlaces.l1 k x0 x3 x4 x5 x7 x8 bt125.1 (wrap64 (x27 + bt125.2)))) else (none)) else (none)) else (if x3 = true then (if x5 = x7 then (if 0 ≤ (wrap64 ((x4.length : Int) - 1)) then (if (wrap64 ((x4.length : Int) - 1)) < (x4.length : Int) then (if ((rd_T32 x4 (wrap64 ((x4.length : Int) - 1))).f0) = 2 then (some (((rd_T32 x4 (wrap64 ((x4.length : Int) - 1))).f1) == x7)) else (none)) else (none)) else (none)) else (none)) else (none))
def ridgewaylaw11_LexPlaces.j2 : Nat → ByteArray → Bool → List (S32) → Int → Int → Int → Int → Int → Option (Bool)
  | 0, _, _, _, _, _, _, _, _ => none
  | k + 1, x0, x3, x4, x5, x7, x8, x10, x27 => if x8 ≥ (x4.length : Int) then (none) else (if 0 ≤ x8 then (if x8 < (x4.length : Int) then (if ((rd_T32 x4 x8).f0) = 0 then (if ((rd_T32 x4 x8).f1) ≤ x7 then (if 0 ≤ (wrap64 (x7 - ((rd_T32 x4 x8).f1))) then (if (wrap64 (x7 - ((rd_T32 x4 x8).f1))) < (((rd_T32 x4 x8).f2).size : Int) then (if (wrap64 (x10)) = (wrap64 (bt ((rd_T32 x4 x8).f2) (wrap64 (x7 - ((rd_T32 x4 x8).f1))))) then (if ((rd_T32 x4 x8).f0) = 1 then (if ((x10 == 10) != (((rd_T32 x4 x8).f1) == x7)) = true then (none) else (ridgewaylaw11_LexPlaces.l0 k x0 x3 x4 x5 (wrap64 (x7 + 1)) x8 x27)) else (if ((x10 == 10) != false) = true then (none) else (ridgewaylaw11_LexPlaces.l0 k x0 x3 x4 x5 (wrap64 (x7 + 1)) x8 x27))) else (none)) else (none)) else (none)) else (if ((rd_T32 x4 x8).f0) = 1 then (if ((x10 == 10) != (((rd_T32 x4 x8).f1) == x7)) = true then (none) else (ridgewaylaw11_LexPlaces.l0 k x0 x3 x4 x5 (wrap64 (x7 + 1)) x8 x27)) else (if ((x10 == 10) != false) = true then (none) else (ridgewaylaw11_LexPlaces.l0 k x0 x3 x4 x5 (wrap64 (x7 + 1)) x8 x27)))) else (if ((rd_T32 x4 x8).f0) = 1 then (if ((x10 == 10) != (((rd_T32 x4 x8).f1) == x7)) = true then (none) else (ridgewaylaw11_LexPlaces.l0 k x0 x3 x4 x5 (wrap64 (x7 + 1)) x8 x27)) else (if ((x10 == 10) != false) = true then (none) else (ridgewaylaw11_LexPlaces.l0 k x0 x3 x4 x5 (wrap64 (x7 + 1)) x8 x27)))) else (none)) else (none))
def ridgewaylaw11_LexPlaces.l1 : Nat → ByteArray → Bool → List (S32) → Int → Int → Int → Int → Int → Option (Bool)
  | 0, _, _, _, _, _, _, _, _ => none
  | k + 1, x0, x3, x4, x5, x7, x8, x10, x27 => if x8 < (x4.length : Int) then (if 0 ≤ x8 then (if ((rd_T32 x4 x8).f1) < x7 then (if ((rd_T32 x4 x8).f0) = 0 then (if (wrap64 (((rd_T32 x4 x8).f1) + (((rd_T32 x4 x8).f2).size : Int))) ≤ x7 then (ridgewaylaw11_LexPlaces.l1 k x0 x3 x4 x5 x7 (wrap64 (x8 + 1)) x10 x27) else (ridgewaylaw11_LexPlaces.j2 k x0 x3 x4 x5 x7 x8 x10 x27)) else (ridgewaylaw11_LexPlaces.l1 k x0 x3 x4 x5 x7 (wrap64 (x8 + 1)) x10 x27)) else (ridgewaylaw11_LexPlaces.j2 k x0 x3 x4 x5 x7 x8 x10 x27)) else (none)) else (ridgewaylaw11_LexPlaces.j2 k x0 x3 x4 x5 x7 x8 x10 x27)
end
def ridgewaylaw11_LexPlaces.f (k : Nat) (a0 : ByteArray) : Option (Bool) := (ridgewaylaw11_awake.f).bind fun t117 => (if (a0.size : Int) > 1000 then (some t117) else ((lex_All.f a0).bind fun bt118 => (if bt118.2.2 = 0 then (ridgewaylaw11_LexPlaces.l0 k a0 t117 bt118.1 bt118.2.1 0 0 0) else (some t117))))
theorem ridgewaylaw11_LexPlaces.mono_l : ∀ k, (∀ y0 y1 y2 y3 y4 y5 y6, LeO (ridgewaylaw11_LexPlaces.l0 k y0 y1 y2 y3 y4 y5 y6) (ridgewaylaw11_LexPlaces.l0 (k + 1) y0 y1 y2 y3 y4 y5 y6)) ∧ (∀ y0 y1 y2 y3 y4 y5 y6 y7, LeO (ridgewaylaw11_LexPlaces.j2 k y0 y1 y2 y3 y4 y5 y6 y7) (ridgewaylaw11_LexPlaces.j2 (k + 1) y0 y1 y2 y3 y4 y5 y6 y7)) ∧ (∀ y0 y1 y2 y3 y4 y5 y6 y7, LeO (ridgewaylaw11_LexPlaces.l1 k y0 y1 y2 y3 y4 y5 y6 y7) (ridgewaylaw11_LexPlaces.l1 (k + 1) y0 y1 y2 y3 y4 y5 y6 y7))
  | 0 => ⟨fun _ _ _ _ _ _ _ r h => by simp [ridgewaylaw11_LexPlaces.l0] at h, fun _ _ _ _ _ _ _ _ r h => by simp [ridgewaylaw11_LexPlaces.j2] at h, fun _ _ _ _ _ _ _ _ r h => by simp [ridgewaylaw11_LexPlaces.l1] at h⟩
  | k + 1 => by
    obtain ⟨ih0, ih1, ih2⟩ := ridgewaylaw11_LexPlaces.mono_l k
    refine ⟨?_, ?_, ?_⟩
    · intro y0 y1 y2 y3 y4 y5 y6
      unfold ridgewaylaw11_LexPlaces.l0
      repeat' first
      | (with_reducible exact ih0 _ _ _ _ _ _ _)
      | (with_reducible exact ih1 _ _ _ _ _ _ _ _)
      | (with_reducible exact ih2 _ _ _ _ _ _ _ _)
      | (with_reducible exact LeO.refl _)
      | (with_reducible exact LeO.none _)
      | (with_reducible refine LeO.ite ?_ ?_)
      | (with_reducible refine LeO.bind ?_ (fun _ => ?_))
      | exact ih0 _ _ _ _ _ _ _
      | exact ih1 _ _ _ _ _ _ _ _
      | exact ih2 _ _ _ _ _ _ _ _
      | exact LeO.none _
      | refine LeO.ite ?_ ?_
      | refine LeO.bind ?_ (fun _ => ?_)
    · intro y0 y1 y2 y3 y4 y5 y6 y7
      unfold ridgewaylaw11_LexPlaces.j2
      repeat' first
      | (with_reducible exact ih0 _ _ _ _ _ _ _)
      | (with_reducible exact ih1 _ _ _ _ _ _ _ _)
      | (with_reducible exact ih2 _ _ _ _ _ _ _ _)
      | (with_reducible exact LeO.refl _)
      | (with_reducible exact LeO.none _)
      | (with_reducible refine LeO.ite ?_ ?_)
      | (with_reducible refine LeO.bind ?_ (fun _ => ?_))
      | exact ih0 _ _ _ _ _ _ _
      | exact ih1 _ _ _ _ _ _ _ _
      | exact ih2 _ _ _ _ _ _ _ _
      | exact LeO.none _
      | refine LeO.ite ?_ ?_
      | refine LeO.bind ?_ (fun _ => ?_)
    · intro y0 y1 y2 y3 y4 y5 y6 y7
      unfold ridgewaylaw11_LexPlaces.l1
      repeat' first
      | (with_reducible exact ih0 _ _ _ _ _ _ _)
      | (with_reducible exact ih1 _ _ _ _ _ _ _ _)
      | (with_reducible exact ih2 _ _ _ _ _ _ _ _)
      | (with_reducible exact LeO.refl _)
      | (with_reducible exact LeO.none _)
      | (with_reducible refine LeO.ite ?_ ?_)
      | (with_reducible refine LeO.bind ?_ (fun _ => ?_))
      | exact ih0 _ _ _ _ _ _ _
      | exact ih1 _ _ _ _ _ _ _ _
      | exact ih2 _ _ _ _ _ _ _ _
      | exact LeO.none _
      | refine LeO.ite ?_ ?_
      | refine LeO.bind ?_ (fun _ => ?_)
theorem ridgewaylaw11_LexPlaces.mono : ∀ a0 k, LeO (ridgewaylaw11_LexPlaces.f k a0) (ridgewaylaw11_LexPlaces.f (k + 1) a0) := by
  intro a0 k
  obtain ⟨ih0, ih1, ih2⟩ := ridgewaylaw11_LexPlaces.mono_l k
  unfold ridgewaylaw11_LexPlaces.f
  repeat' first
      | (with_reducible exact ih0 _ _ _ _ _ _ _)
      | (with_reducible exact ih1 _ _ _ _ _ _ _ _)
      | (with_reducible exact ih2 _ _ _ _ _ _ _ _)
      | (with_reducible exact LeO.refl _)
      | (with_reducible exact LeO.none _)
      | (with_reducible refine LeO.ite ?_ ?_)
      | (with_reducible refine LeO.bind ?_ (fun _ => ?_))
      | exact ih0 _ _ _ _ _ _ _
      | exact ih1 _ _ _ _ _ _ _ _
      | exact ih2 _ _ _ _ _ _ _ _
      | exact LeO.none _
      | refine LeO.ite ?_ ?_
      | refine LeO.bind ?_ (fun _ => ?_)
theorem dec_roomP (s : ByteArray) (pos : Nat) (h : pos < s.size) : 1 ≤ (Utf8.decode s pos).2 ∧ pos + (Utf8.decode s pos).2 ≤ s.size := by
  have hl : s.data.toList.length = s.size := by rw [Array.length_toList]; rfl
  have hne : s.data.toList.drop pos ≠ [] := by
    intro h0
    have := congrArg List.length h0
    rw [List.length_drop, List.length_nil] at this
    omega
  have := Pure.dec_room _ hne
  rw [List.length_drop] at this
  rw [Pure.dec_list]
  exact ⟨Pure.dec_width _, by omega⟩
theorem dec_tail (s : ByteArray) (pos : Nat) (h : pos ≤ s.size) : Utf8.decode (s.extract pos s.size) 0 = Utf8.decode s pos := by
  have hl : s.data.toList.length = s.size := by rw [Array.length_toList]; rfl
  rw [Pure.dec_list, Pure.dec_list, List.drop_zero, ByteArray.data_extract, Array.toList_extract, List.extract_eq_take_drop, List.take_of_length_le]
  rw [List.length_drop]
  omega
/-- The iterator stands at x. -/
def IterP (s : ByteArray) (g : Nat) (x : Int) (W : World) : Prop := 0 ≤ x ∧ x ≤ s.size ∧ W.heap[g]? = some (.stringIter s x.toNat)
theorem R_iterAt {W : World} {base : Nat} {ok : Nat → Prop} {v : Value} {xs : List S32} (h : k32.R 32 W base ok v xs) {k : Nat} {s : ByteArray} {pos : Nat} (hk : W.heap[k]? = some (.stringIter s pos)) (pos' : Nat) : k32.R 32 (W.iterAt k s pos') base ok v xs := by
  have h1 := Kd.R_far1 h rfl (g := k) (fun e => by
    obtain ⟨cells, hc⟩ := Kd.R_typed h k e.symm
    rw [hk] at hc
    cases hc)
  exact Kd.R_mono (Kd.R_step h1 (fun j hj _ => Lib.iterAt_other W k j s pos' hj.2)) (fun _ h => h.1)
set_option maxHeartbeats 8000000 in
set_option maxRecDepth 100000 in
theorem ridgewaylaw11_LexPlaces.calls (k : Nat) (a0 : ByteArray) (r : Bool) (w : World) (hT : Tabs w) (h : ridgewaylaw11_LexPlaces.f k a0 = some r) :
    Calls Tryd.prog 5 #[.string a0] w fun e w' => e = .returned (.bool r) ∧ Below w.heap.size w w' := by
  have HT := Aside0.mk hT
  clear hT
  have HB := Aside0.mk (Below.refl w.heap.size w)
  have H : ((ridgewaylaw11_awake.f).bind fun t117 => (if (a0.size : Int) > 1000 then (some t117) else ((lex_All.f a0).bind fun bt118 => (if bt118.2.2 = 0 then (ridgewaylaw11_LexPlaces.l0 k a0 t117 bt118.1 bt118.2.1 0 0 0) else (some t117))))) = some r := h
  clear h
  replace H := Option.bind_eq_some_iff.mp H
  obtain ⟨t117, A20, H⟩ := H
  replace H : (if (a0.size : Int) > 1000 then (some t117) else ((lex_All.f a0).bind fun bt118 => (if bt118.2.2 = 0 then (ridgewaylaw11_LexPlaces.l0 k a0 t117 bt118.1 bt118.2.1 0 0 0) else (some t117)))) = some r := H
  have A2 := Aside0.mk A20
  clear A20
  by_cases c3 : (a0.size : Int) > 1000
  · rw [if_pos c3] at H
    have c3b0 : decide (1000 < (a0.size : Int)) = true := decide_eq_true c3
    have c3b1 : decide (1000 < a0.size) = true := decide_eq_true (by omega)
    clear c3
    obtain rfl := Option.some.inj H
    go_enter Tryd.func5, Tryd.ntmps5
    go_wp2_with (first | (go_at_call 9; (with_reducible refine (ridgewaylaw11_awake.calls  t117 _ ?side1 A2.out).mono ?_); (case side1 => exact Tabs.below HT.out (by repeat (first | (with_reducible first | exact HB.out | apply below_alloc | apply pw_below_drewN | apply below_drew1) | exact HB.out))); rintro e w4 ⟨rfl, hb⟩; have n0_ := Aside0.mk (below_step (by repeat (first | (with_reducible first | exact HB.out | apply below_alloc | apply pw_below_drewN | apply below_drew1) | exact HB.out)) hb); clear HB; have HB := n0_; clear n0_; (try clear hb); (try clear hb2); (try clear hk); (try clear hi)))
    repeat (go_quiet (first | (go_at_call 9; (with_reducible refine (ridgewaylaw11_awake.calls  t117 _ ?side1 A2.out).mono ?_); (case side1 => exact Tabs.below HT.out (by repeat (first | (with_reducible first | exact HB.out | apply below_alloc | apply pw_below_drewN | apply below_drew1) | exact HB.out))); rintro e w4 ⟨rfl, hb⟩; have n0_ := Aside0.mk (below_step (by repeat (first | (with_reducible first | exact HB.out | apply below_alloc | apply pw_below_drewN | apply below_drew1) | exact HB.out)) hb); clear HB; have HB := n0_; clear n0_; (try clear hb); (try clear hb2); (try clear hk); (try clear hi))); try go_wp2_with (first | (go_at_call 9; (with_reducible refine (ridgewaylaw11_awake.calls  t117 _ ?side1 A2.out).mono ?_); (case side1 => exact Tabs.below HT.out (by repeat (first | (with_reducible first | exact HB.out | apply below_alloc | apply pw_below_drewN | apply below_drew1) | exact HB.out))); rintro e w4 ⟨rfl, hb⟩; have n0_ := Aside0.mk (below_step (by repeat (first | (with_reducible first | exact HB.out | apply below_alloc | apply pw_below_drewN | apply below_drew1) | exact HB.out)) hb); clear HB; have HB := n0_; clear n0_; (try clear hb); (try clear hb2); (try clear hk); (try clear hi))))
    go_ret
    exact ⟨by first | rfl | (simp [errW_none, errW_some] <;> rfl) | (simp [*, errW_none, errW_some] <;> rfl), by repeat (first | (with_reducible first | exact HB.out | apply below_alloc | apply pw_below_drewN | apply below_drew1) | exact HB.out)⟩
  · rw [if_neg c3] at H
    have c3b0 : decide (1000 < (a0.size : Int)) = false := decide_eq_false c3
    have c3b1 : decide (1000 < a0.size) = false := decide_eq_false (by omega)
    clear c3
    replace H := Option.bind_eq_some_iff.mp H
    obtain ⟨⟨t118, t119, t120⟩, A50, H⟩ := H
    replace H : (if t120 = 0 then (ridgewaylaw11_LexPlaces.l0 k a0 t117 t118 t119 0 0 0) else (some t117)) = some r := H
    have A5 := Aside0.mk A50
    clear A50
    by_cases c6 : t120 = 0
    · rw [if_pos c6] at H
      have c6b0 : (t120 == 0) = true := beq_iff_eq.mpr c6
      have c6b1 : (t120 != 0) = false := bne_eq_false_iff_eq.mpr c6
      clear c6
      have H' := Aside0.mk H
      clear H
      go_enter Tryd.func5, Tryd.ntmps5
      go_wp2_with (first | (go_at_call 9; (with_reducible refine (ridgewaylaw11_awake.calls  t117 _ ?side1 A2.out).mono ?_); (case side1 => exact Tabs.below HT.out (by repeat (first | (with_reducible first | exact HB.out | apply below_alloc | apply pw_below_drewN | apply below_drew1) | exact HB.out))); rintro e w7 ⟨rfl, hb⟩; have n0_ := Aside0.mk (below_step (by repeat (first | (with_reducible first | exact HB.out | apply below_alloc | apply pw_below_drewN | apply below_drew1) | exact HB.out)) hb); clear HB; have HB := n0_; clear n0_; (try clear hb); (try clear hb2); (try clear hk); (try clear hi)) | (go_at_call 11; (with_reducible refine (lex_All.calls a0 t118 t119 t120 _ ?side1 A5.out).mono ?_); (case side1 => exact Tabs.below HT.out (by repeat (first | (with_reducible first | exact HB.out | apply below_alloc | apply pw_below_drewN | apply below_drew1) | exact HB.out))); rintro e w8 ⟨v121, rfl, ho0, hb⟩; have n0_ := Aside0.mk (Kd.R_lower ho0 (below_size (by repeat (first | (with_reducible first | exact HB.out | apply below_alloc | apply pw_below_drewN | apply below_drew1) | exact HB.out)))); have n1_ := Aside0.mk (below_step (by repeat (first | (with_reducible first | exact HB.out | apply below_alloc | apply pw_below_drewN | apply below_drew1) | exact HB.out)) hb); clear HB; have HO122 := n0_; have HB := n1_; clear n0_ n1_; (try clear hb); (try clear hb2); (try clear hk); (try clear hi); (try clear ho0)))
      repeat (go_quiet (first | (go_at_call 9; (with_reducible refine (ridgewaylaw11_awake.calls  t117 _ ?side1 A2.out).mono ?_); (case side1 => exact Tabs.below HT.out (by repeat (first | (with_reducible first | exact HB.out | apply below_alloc | apply pw_below_drewN | apply below_drew1) | exact HB.out))); rintro e w7 ⟨rfl, hb⟩; have n0_ := Aside0.mk (below_step (by repeat (first | (with_reducible first | exact HB.out | apply below_alloc | apply pw_below_drewN | apply below_drew1) | exact HB.out)) hb); clear HB; have HB := n0_; clear n0_; (try clear hb); (try clear hb2); (try clear hk); (try clear hi)) | (go_at_call 11; (with_reducible refine (lex_All.calls a0 t118 t119 t120 _ ?side1 A5.out).mono ?_); (case side1 => exact Tabs.below HT.out (by repeat (first | (with_reducible first | exact HB.out | apply below_alloc | apply pw_below_drewN | apply below_drew1) | exact HB.out))); rintro e w8 ⟨v121, rfl, ho0, hb⟩; have n0_ := Aside0.mk (Kd.R_lower ho0 (below_size (by repeat (first | (with_reducible first | exact HB.out | apply below_alloc | apply pw_below_drewN | apply below_drew1) | exact HB.out)))); have n1_ := Aside0.mk (below_step (by repeat (first | (with_reducible first | exact HB.out | apply below_alloc | apply pw_below_drewN | apply below_drew1) | exact HB.out)) hb); clear HB; have HO122 := n0_; have HB := n1_; clear n0_ n1_; (try clear hb); (try clear hb2); (try clear hk); (try clear hi); (try clear ho0))); try go_wp2_with (first | (go_at_call 9; (with_reducible refine (ridgewaylaw11_awake.calls  t117 _ ?side1 A2.out).mono ?_); (case side1 => exact Tabs.below HT.out (by repeat (first | (with_reducible first | exact HB.out | apply below_alloc | apply pw_below_drewN | apply below_drew1) | exact HB.out))); rintro e w7 ⟨rfl, hb⟩; have n0_ := Aside0.mk (below_step (by repeat (first | (with_reducible first | exact HB.out | apply below_alloc | apply pw_below_drewN | apply below_drew1) | exact HB.out)) hb); clear HB; have HB := n0_; clear n0_; (try clear hb); (try clear hb2); (try clear hk); (try clear hi)) | (go_at_call 11; (with_reducible refine (lex_All.calls a0 t118 t119 t120 _ ?side1 A5.out).mono ?_); (case side1 => exact Tabs.below HT.out (by repeat (first | (with_reducible first | exact HB.out | apply below_alloc | apply pw_below_drewN | apply below_drew1) | exact HB.out))); rintro e w8 ⟨v121, rfl, ho0, hb⟩; have n0_ := Aside0.mk (Kd.R_lower ho0 (below_size (by repeat (first | (with_reducible first | exact HB.out | apply below_alloc | apply pw_below_drewN | apply below_drew1) | exact HB.out)))); have n1_ := Aside0.mk (below_step (by repeat (first | (with_reducible first | exact HB.out | apply below_alloc | apply pw_below_drewN | apply below_drew1) | exact HB.out)) hb); clear HB; have HO122 := n0_; have HB := n1_; clear n0_ n1_; (try clear hb); (try clear hb2); (try clear hk); (try clear hi); (try clear ho0))))
      have HG := Aside0.mk (below_size HB.out)
      have HSZ : Aside0 (a0.size ≤ 1000) := ⟨by have := of_decide_eq_false c3b0; omega⟩
      go_loopg [7, 8] k (fun kq v7 v8 w' => ∃ (x7_1 : Int) (x8_1 : Int) (x27_1 : Int), v7 = .int .i64 x7_1 ∧ v8 = .int .i64 x8_1 ∧ Aside0 (IterP a0 w8.heap.size x27_1 w') ∧ Aside0 (ridgewaylaw11_LexPlaces.l0 kq a0 t117 t118 t119 x7_1 x8_1 x27_1 = some r) ∧ Aside0 (kq ≤ k) ∧ Aside0 (Kd.R k32 32 w' w.heap.size (fun _ => True) v121 t118) ∧ Aside0 (Below w.heap.size w w'))
      case atStart => exact ⟨(0), (0), (0), (by first | rfl | (simp; done) | (simp [*]; done)), (by first | rfl | (simp; done) | (simp [*]; done)), ⟨⟨by omega, by omega, World.iter_heap w8 a0 0⟩⟩, H', ⟨Nat.le_refl _⟩, ⟨Kd.R_alloc HO122.out _⟩, ⟨HB.out.alloc (below_size HB.out) _⟩⟩
      case round =>
        clear H'
        try clear p2
        try clear c3
        try clear c3b0
        try clear c3b1
        try clear c5
        try clear c6
        try clear c6b0
        try clear c6b1
        obtain ⟨x7_1, x8_1, x27_1, rfl, rfl, HIT, HA, HK1, HO_4, HB⟩ := hrel
        cases gk with
        | zero => exact absurd HA.out (by simp [ridgewaylaw11_LexPlaces.l0])
        | succ k1 =>
          have H := HA.out
          clear HA
          simp only [ridgewaylaw11_LexPlaces.l0] at H
          by_cases c9 : x27_1 < (a0.size : Int)
          · rw [if_pos c9] at H
            have c9b0 : decide (x27_1 < (a0.size : Int)) = true := decide_eq_true c9
            clear c9
            by_cases c10 : 0 ≤ x27_1
            · rw [if_pos c10] at H
              have c10b0 := eq_true c10
              have c10b1 : decide (0 ≤ x27_1) = true := decide_eq_true c10
              clear c10
              by_cases c11 : x27_1 ≤ (a0.size : Int)
              · rw [if_pos c11] at H
                have c11b0 := eq_true c11
                have c11b1 : decide (x27_1 ≤ (a0.size : Int)) = true := decide_eq_true c11
                clear c11
                replace H := Option.bind_eq_some_iff.mp H
                obtain ⟨⟨t125, t126⟩, A120, H⟩ := H
                replace H : (ridgewaylaw11_LexPlaces.l1 k1 a0 t117 t118 t119 x7_1 x8_1 t125 (wrap64 (x27_1 + t126))) = some r := H
                have A12 := Aside0.mk A120
                clear A120
                have HC13 := Aside0.mk H
                clear H
                obtain ⟨hx0, hx1, hit⟩ := HIT.out
                have hxlt : x27_1 < (a0.size : Int) := of_decide_eq_true c9b0
                have hp : x27_1.toNat < a0.size := by omega
                have hnx : ∀ ty, (Instr.next (.pointer (some ⟨w8.heap.size, 0, none⟩)) true ty).run Tryd.prog wr = _ := fun ty => Lib.run_next_any_at wr w8.heap.size a0 x27_1.toNat ty hit hp
                obtain ⟨hd1, hd2⟩ := dec_roomP a0 x27_1.toNat hp
                have h12 := A12.out
                unfold utf8_DecodeRuneInString.f at h12
                rw [dec_tail a0 x27_1.toNat (by omega)] at h12
                have h12' := Option.some.inj h12
                have e125 : ((Utf8.decode a0 x27_1.toNat).1 : Int) = t125 := congrArg (·.1) h12'
                have e126 : ((Utf8.decode a0 x27_1.toNat).2 : Int) = t126 := congrArg (·.2) h12'
                have hsz := HSZ.out
                have hw27 : wrap64 (x27_1 + t126) = x27_1 + t126 := by unfold wrap64; omega
                have hn27 : (wrap64 (x27_1 + t126)).toNat = x27_1.toNat + (Utf8.decode a0 x27_1.toNat).2 := by rw [hw27]; omega
                have HI := Aside0.mk (show IterP a0 w8.heap.size (wrap64 (x27_1 + t126)) (wr.iterAt w8.heap.size a0 (x27_1.toNat + (Utf8.decode a0 x27_1.toNat).2)) from ⟨by rw [hw27]; omega, by rw [hw27]; omega, by rw [hn27]; exact Lib.iterAt_heap wr w8.heap.size a0 x27_1.toNat _ hit⟩)
                have HB2 := Aside0.mk (Lib.below_iterAt HB.out HG.out a0 (x27_1.toNat + (Utf8.decode a0 x27_1.toNat).2))
                have HO2 := Aside0.mk (R_iterAt HO_4.out hit (x27_1.toNat + (Utf8.decode a0 x27_1.toNat).2))
                rw [e125] at hnx
                clear HB HO_4 HIT hit h12 h12' A12 e125 hn27
                generalize hwi : wr.iterAt w8.heap.size a0 (x27_1.toNat + (Utf8.decode a0 x27_1.toNat).2) = w2 at hnx HI HB2 HO2
                clear hwi e126 hd1 hd2 hw27
                have HB := HB2
                have HO_4 := HO2
                clear HB2 HO2
                go_upto_block 2 with (fail)
                repeat (go_quiet (fail); go_upto_block 2 with (fail))
                (try simp only [Act.put, List.setIfInBounds_toArray, List.set_cons_zero, List.set_cons_succ])
                go_cut [8] (fun v8 wc => ∃ (kq : Nat) (x8_12 : Int), v8 = .int .i64 x8_12 ∧ Aside0 (ridgewaylaw11_LexPlaces.j2 kq a0 t117 t118 t119 x7_1 x8_12 t125 (wrap64 (x27_1 + t126)) = some r) ∧ Aside0 (kq ≤ k1) ∧ Aside0 (Kd.R k32 32 wc w.heap.size (fun _ => True) v121 t118) ∧ Aside0 (Below w.heap.size w wc) ∧ Aside0 (IterP a0 w8.heap.size (wrap64 (x27_1 + t126)) wc))
                case first =>
                  have H := HC13.out
                  clear HC13
                  have H' := Aside0.mk H
                  clear H
                  go_wp2
                  repeat (go_quiet (fail); try go_wp2)
                  go_loopg [8] k1 (fun kq v8 w' => ∃ (x8_2 : Int), v8 = .int .i64 x8_2 ∧ Aside0 (ridgewaylaw11_LexPlaces.l1 kq a0 t117 t118 t119 x7_1 x8_2 t125 (wrap64 (x27_1 + t126)) = some r) ∧ Aside0 (kq ≤ k1) ∧ Aside0 (Kd.R k32 32 w' w.heap.size (fun _ => True) v121 t118) ∧ Aside0 (Below w.heap.size w w') ∧ Aside0 (IterP a0 w8.heap.size (wrap64 (x27_1 + t126)) w'))
                  case atStart => exact ⟨(x8_1), (by first | rfl | (simp; done) | (simp [*]; done)), H', ⟨Nat.le_refl _⟩, ⟨by (with_reducible repeat (first | apply Kd.R_alloc | apply Kd.R_drewN | apply Kd.R_drew)); exact HO_4.out⟩, ⟨by repeat (first | (with_reducible first | exact HB.out | apply below_alloc | apply pw_below_drewN | apply below_drew1) | exact HB.out)⟩, ⟨HI.out⟩⟩
                  case round =>
                    clear H'
                    try clear c1
                    try clear p2
                    try clear c3
                    try clear c3b0
                    try clear c3b1
                    try clear c5
                    try clear c6
                    try clear c6b0
                    try clear c6b1
                    try clear p6
                    try clear c9
                    try clear c9b0
                    try clear c10
                    try clear c10b0
                    try clear c10b1
                    try clear c11
                    try clear c11b0
                    try clear c11b1
                    try clear p2
                    clear HI
                    obtain ⟨x8_2, rfl, HA, HK2, HO_4, HB, HI⟩ := hrel
                    cases gk with
                    | zero => exact absurd HA.out (by simp [ridgewaylaw11_LexPlaces.l1])
                    | succ k2 =>
                      have H := HA.out
                      clear HA
                      simp only [ridgewaylaw11_LexPlaces.l1] at H
                      by_cases c15 : x8_2 < (t118.length : Int)
                      · rw [if_pos c15] at H
                        have c15b0 : decide (x8_2 < (t118.length : Int)) = true := decide_eq_true c15
                        clear c15
                        (first | (rw [c15b0]; skip) | (have cw_ := c15b0; simp only [gt_iff_lt, ge_iff_le, Int.natCast_pos] at cw_; rw [cw_]; clear cw_; skip) | skip)
                        by_cases c16 : 0 ≤ x8_2
                        · rw [if_pos c16] at H
                          have c16b0 : decide (0 ≤ x8_2) = true := decide_eq_true c16
                          clear c16
                          by_cases c17 : ((rd_T32 t118 x8_2).f1) < x7_1
                          · rw [if_pos c17] at H
                            have c17b0 : decide (((rd_T32 t118 x8_2).f1) < x7_1) = true := decide_eq_true c17
                            clear c17
                            by_cases c18 : ((rd_T32 t118 x8_2).f0) = 0
                            · rw [if_pos c18] at H
                              have c18b0 : (((rd_T32 t118 x8_2).f0) == 0) = true := beq_iff_eq.mpr c18
                              have c18b1 : (((rd_T32 t118 x8_2).f0) != 0) = false := bne_eq_false_iff_eq.mpr c18
                              clear c18
                              by_cases c19 : (wrap64 (((rd_T32 t118 x8_2).f1) + (((rd_T32 t118 x8_2).f2).size : Int))) ≤ x7_1
                              · rw [if_pos c19] at H
                                have c19b0 : decide ((wrap64 (((rd_T32 t118 x8_2).f1) + (((rd_T32 t118 x8_2).f2).size : Int))) ≤ x7_1) = true := decide_eq_true c19
                                clear c19
                                have H' := Aside0.mk H
                                clear H
                                obtain ⟨Ao20, co20, eo20⟩ := Kd.R_slice HO_4.out
                                subst eo20
                                have p127 : 0 ≤ (x8_2 : Int) := of_decide_eq_true (by first | (with_reducible assumption) | assumption)
                                have q127 : x8_2 < (t118.length : Int) := of_decide_eq_true (by first | (with_reducible assumption) | assumption)
                                obtain ⟨ad127, e127, hx127_0, hx127_1, hx127_2⟩ := at_T32 (Kd.R_reads' HO_4.out).2.2 x8_2 p127 q127
                                cases e127
                                replace p127 := eq_true p127
                                replace q127 := eq_true q127
                                have p128 : 0 ≤ (x8_2 : Int) := of_decide_eq_true (by first | (with_reducible assumption) | assumption)
                                have q128 : x8_2 < (t118.length : Int) := of_decide_eq_true (by first | (with_reducible assumption) | assumption)
                                obtain ⟨ad128, e128, hx128_0, hx128_1, hx128_2⟩ := at_T32 (Kd.R_reads' HO_4.out).2.2 x8_2 p128 q128
                                obtain rfl : ad127 = ad128 := (by injection e128)
                                replace p128 := eq_true p128
                                replace q128 := eq_true q128
                                have p129 : 0 ≤ (x8_2 : Int) := of_decide_eq_true (by first | (with_reducible assumption) | assumption)
                                have q129 : x8_2 < (t118.length : Int) := of_decide_eq_true (by first | (with_reducible assumption) | assumption)
                                obtain ⟨ad129, e129, hx129_0, hx129_1, hx129_2⟩ := at_T32 (Kd.R_reads' HO_4.out).2.2 x8_2 p129 q129
                                obtain rfl : ad127 = ad129 := (by injection e129)
                                replace p129 := eq_true p129
                                replace q129 := eq_true q129
                                have p130 : 0 ≤ (x8_2 : Int) := of_decide_eq_true (by first | (with_reducible assumption) | assumption)
                                have q130 : x8_2 < (t118.length : Int) := of_decide_eq_true (by first | (with_reducible assumption) | assumption)
                                obtain ⟨ad130, e130, hx130_0, hx130_1, hx130_2⟩ := at_T32 (Kd.R_reads' HO_4.out).2.2 x8_2 p130 q130
                                obtain rfl : ad127 = ad130 := (by injection e130)
                                replace p130 := eq_true p130
                                replace q130 := eq_true q130
                                go_wp2
                                repeat (go_quiet (fail); try go_wp2)
                                go_roundg k2
                                case measure => have := HK1.out; have := HK2.out; omega
                                case rel => exact ⟨(wrap64 (x8_2 + 1)), (by first | rfl | (simp; done) | (simp [*]; done)), H', ⟨by have := HK1.out; have := HK2.out; omega⟩, ⟨by (with_reducible repeat (first | apply Kd.R_alloc | apply Kd.R_drewN | apply Kd.R_drew)); exact HO_4.out⟩, ⟨by repeat (first | (with_reducible first | exact HB.out | apply below_alloc | apply pw_below_drewN | apply below_drew1) | exact HB.out)⟩, ⟨HI.out⟩⟩
                              · rw [if_neg c19] at H
                                have c19b0 : decide ((wrap64 (((rd_T32 t118 x8_2).f1) + (((rd_T32 t118 x8_2).f2).size : Int))) ≤ x7_1) = false := decide_eq_false c19
                                clear c19
                                have H' := Aside0.mk H
                                clear H
                                obtain ⟨Ao21, co21, eo21⟩ := Kd.R_slice HO_4.out
                                subst eo21
                                have p127 : 0 ≤ (x8_2 : Int) := of_decide_eq_true (by first | (with_reducible assumption) | assumption)
                                have q127 : x8_2 < (t118.length : Int) := of_decide_eq_true (by first | (with_reducible assumption) | assumption)
                                obtain ⟨ad127, e127, hx127_0, hx127_1, hx127_2⟩ := at_T32 (Kd.R_reads' HO_4.out).2.2 x8_2 p127 q127
                                cases e127
                                replace p127 := eq_true p127
                                replace q127 := eq_true q127
                                have p128 : 0 ≤ (x8_2 : Int) := of_decide_eq_true (by first | (with_reducible assumption) | assumption)
                                have q128 : x8_2 < (t118.length : Int) := of_decide_eq_true (by first | (with_reducible assumption) | assumption)
                                obtain ⟨ad128, e128, hx128_0, hx128_1, hx128_2⟩ := at_T32 (Kd.R_reads' HO_4.out).2.2 x8_2 p128 q128
                                obtain rfl : ad127 = ad128 := (by injection e128)
                                replace p128 := eq_true p128
                                replace q128 := eq_true q128
                                have p129 : 0 ≤ (x8_2 : Int) := of_decide_eq_true (by first | (with_reducible assumption) | assumption)
                                have q129 : x8_2 < (t118.length : Int) := of_decide_eq_true (by first | (with_reducible assumption) | assumption)
                                obtain ⟨ad129, e129, hx129_0, hx129_1, hx129_2⟩ := at_T32 (Kd.R_reads' HO_4.out).2.2 x8_2 p129 q129
                                obtain rfl : ad127 = ad129 := (by injection e129)
                                replace p129 := eq_true p129
                                replace q129 := eq_true q129
                                have p130 : 0 ≤ (x8_2 : Int) := of_decide_eq_true (by first | (with_reducible assumption) | assumption)
                                have q130 : x8_2 < (t118.length : Int) := of_decide_eq_true (by first | (with_reducible assumption) | assumption)
                                obtain ⟨ad130, e130, hx130_0, hx130_1, hx130_2⟩ := at_T32 (Kd.R_reads' HO_4.out).2.2 x8_2 p130 q130
                                obtain rfl : ad127 = ad130 := (by injection e130)
                                replace p130 := eq_true p130
                                replace q130 := eq_true q130
                                go_wp2
                                repeat (go_quiet (fail); try go_wp2)
                                go_meet
                                case rel => exact ⟨_, (x8_2), (by first | rfl | (simp; done) | (simp [*]; done)), H', ⟨by have := HK1.out; have := HK2.out; first | omega | exact Nat.le_refl _⟩, ⟨by (with_reducible repeat (first | apply Kd.R_alloc | apply Kd.R_drewN | apply Kd.R_drew)); exact HO_4.out⟩, ⟨by repeat (first | (with_reducible first | exact HB.out | apply below_alloc | apply pw_below_drewN | apply below_drew1) | exact HB.out)⟩, ⟨HI.out⟩⟩
                            · rw [if_neg c18] at H
                              have c18b0 : (((rd_T32 t118 x8_2).f0) == 0) = false := beq_eq_false_iff_ne.mpr c18
                              have c18b1 : (((rd_T32 t118 x8_2).f0) != 0) = true := bne_iff_ne.mpr c18
                              have H' := Aside0.mk H
                              clear H
                              obtain ⟨Ao22, co22, eo22⟩ := Kd.R_slice HO_4.out
                              subst eo22
                              have p127 : 0 ≤ (x8_2 : Int) := of_decide_eq_true (by first | (with_reducible assumption) | assumption)
                              have q127 : x8_2 < (t118.length : Int) := of_decide_eq_true (by first | (with_reducible assumption) | assumption)
                              obtain ⟨ad127, e127, hx127_0, hx127_1, hx127_2⟩ := at_T32 (Kd.R_reads' HO_4.out).2.2 x8_2 p127 q127
                              cases e127
                              replace p127 := eq_true p127
                              replace q127 := eq_true q127
                              have p128 : 0 ≤ (x8_2 : Int) := of_decide_eq_true (by first | (with_reducible assumption) | assumption)
                              have q128 : x8_2 < (t118.length : Int) := of_decide_eq_true (by first | (with_reducible assumption) | assumption)
                              obtain ⟨ad128, e128, hx128_0, hx128_1, hx128_2⟩ := at_T32 (Kd.R_reads' HO_4.out).2.2 x8_2 p128 q128
                              obtain rfl : ad127 = ad128 := (by injection e128)
                              replace p128 := eq_true p128
                              replace q128 := eq_true q128
                              go_wp2
                              repeat (go_quiet (fail); try go_wp2)
                              go_roundg k2
                              case measure => have := HK1.out; have := HK2.out; omega
                              case rel => exact ⟨(wrap64 (x8_2 + 1)), (by first | rfl | (simp; done) | (simp [*]; done)), H', ⟨by have := HK1.out; have := HK2.out; omega⟩, ⟨by (with_reducible repeat (first | apply Kd.R_alloc | apply Kd.R_drewN | apply Kd.R_drew)); exact HO_4.out⟩, ⟨by repeat (first | (with_reducible first | exact HB.out | apply below_alloc | apply pw_below_drewN | apply below_drew1) | exact HB.out)⟩, ⟨HI.out⟩⟩
                          · rw [if_neg c17] at H
                            have c17b0 : decide (((rd_T32 t118 x8_2).f1) < x7_1) = false := decide_eq_false c17
                            clear c17
                            have H' := Aside0.mk H
                            clear H
                            obtain ⟨Ao23, co23, eo23⟩ := Kd.R_slice HO_4.out
                            subst eo23
                            have p127 : 0 ≤ (x8_2 : Int) := of_decide_eq_true (by first | (with_reducible assumption) | assumption)
                            have q127 : x8_2 < (t118.length : Int) := of_decide_eq_true (by first | (with_reducible assumption) | assumption)
                            obtain ⟨ad127, e127, hx127_0, hx127_1, hx127_2⟩ := at_T32 (Kd.R_reads' HO_4.out).2.2 x8_2 p127 q127
                            cases e127
                            replace p127 := eq_true p127
                            replace q127 := eq_true q127
                            go_wp2
                            repeat (go_quiet (fail); try go_wp2)
                            go_meet
                            case rel => exact ⟨_, (x8_2), (by first | rfl | (simp; done) | (simp [*]; done)), H', ⟨by have := HK1.out; have := HK2.out; first | omega | exact Nat.le_refl _⟩, ⟨by (with_reducible repeat (first | apply Kd.R_alloc | apply Kd.R_drewN | apply Kd.R_drew)); exact HO_4.out⟩, ⟨by repeat (first | (with_reducible first | exact HB.out | apply below_alloc | apply pw_below_drewN | apply below_drew1) | exact HB.out)⟩, ⟨HI.out⟩⟩
                        · rw [if_neg c16] at H
                          exact absurd H (by simp)
                      · rw [if_neg c15] at H
                        have c15b0 : decide (x8_2 < (t118.length : Int)) = false := decide_eq_false c15
                        clear c15
                        (first | (rw [c15b0]; skip) | (have cw_ := c15b0; simp only [gt_iff_lt, ge_iff_le, Int.natCast_pos] at cw_; rw [cw_]; clear cw_; skip) | skip)
                        have H' := Aside0.mk H
                        clear H
                        obtain ⟨Ao24, co24, eo24⟩ := Kd.R_slice HO_4.out
                        subst eo24
                        go_wp2
                        repeat (go_quiet (fail); try go_wp2)
                        go_meet
                        case rel => exact ⟨_, (x8_2), (by first | rfl | (simp; done) | (simp [*]; done)), H', ⟨by have := HK1.out; have := HK2.out; first | omega | exact Nat.le_refl _⟩, ⟨by (with_reducible repeat (first | apply Kd.R_alloc | apply Kd.R_drewN | apply Kd.R_drew)); exact HO_4.out⟩, ⟨by repeat (first | (with_reducible first | exact HB.out | apply below_alloc | apply pw_below_drewN | apply below_drew1) | exact HB.out)⟩, ⟨HI.out⟩⟩
                case rest =>
                  clear HC13
                  try clear c1
                  try clear p1
                  try clear q1
                  try clear hx1
                  try clear p2
                  try clear c3
                  try clear c3b0
                  try clear c3b1
                  try clear c5
                  try clear c6
                  try clear c6b0
                  try clear c6b1
                  try clear p6
                  try clear c9
                  try clear c9b0
                  try clear c10
                  try clear c10b0
                  try clear c10b1
                  try clear c11
                  try clear c11b0
                  try clear c11b1
                  try clear p12
                  try clear q12
                  try clear hx12
                  try clear p13
                  try clear q13
                  try clear hx13
                  try clear c15
                  try clear c15b0
                  try clear c16
                  try clear c16b0
                  try clear c17
                  try clear c17b0
                  try clear c18
                  try clear c18b0
                  try clear c18b1
                  try clear c19
                  try clear c19b0
                  try clear hx127_0
                  try clear hx127_1
                  try clear hx127_2
                  try clear hx128_0
                  try clear hx128_1
                  try clear hx128_2
                  try clear hx129_0
                  try clear hx129_1
                  try clear hx129_2
                  try clear hx130_0
                  try clear hx130_1
                  try clear hx130_2
                  try clear p127
                  try clear p128
                  try clear p129
                  try clear p130
                  try clear p2
                  try clear p6
                  try clear q127
                  try clear q128
                  try clear q129
                  try clear q130
                  clear HI
                  obtain ⟨kq, x8_12, rfl, HA, HJ12, HO_4, HB, HI⟩ := hcut
                  cases kq with
                  | zero => exact absurd HA.out (by simp [ridgewaylaw11_LexPlaces.j2])
                  | succ kj12 =>
                    have H := HA.out
                    clear HA
                    simp only [ridgewaylaw11_LexPlaces.j2] at H
                    by_cases c25 : x8_12 ≥ (t118.length : Int)
                    · rw [if_pos c25] at H
                      exact absurd H (by simp)
                    · rw [if_neg c25] at H
                      have c25b0 : decide ((t118.length : Int) ≤ x8_12) = false := decide_eq_false c25
                      clear c25
                      by_cases c26 : 0 ≤ x8_12
                      · rw [if_pos c26] at H
                        have c26b0 : decide (0 ≤ x8_12) = true := decide_eq_true c26
                        clear c26
                        by_cases c27 : x8_12 < (t118.length : Int)
                        · rw [if_pos c27] at H
                          have c27b0 : decide (x8_12 < (t118.length : Int)) = true := decide_eq_true c27
                          clear c27
                          by_cases c28 : ((rd_T32 t118 x8_12).f0) = 0
                          · rw [if_pos c28] at H
                            have c28b0 : (((rd_T32 t118 x8_12).f0) == 0) = true := beq_iff_eq.mpr c28
                            have c28b1 : (((rd_T32 t118 x8_12).f0) != 0) = false := bne_eq_false_iff_eq.mpr c28
                            clear c28
                            by_cases c29 : ((rd_T32 t118 x8_12).f1) ≤ x7_1
                            · rw [if_pos c29] at H
                              have c29b0 : decide (((rd_T32 t118 x8_12).f1) ≤ x7_1) = true := decide_eq_true c29
                              clear c29
                              obtain ⟨ji30, hji30⟩ : ∃ j_ : Int, (wrap64 (x7_1 - ((rd_T32 t118 x8_12).f1))) = j_ := ⟨_, rfl⟩
                              replace H : (if 0 ≤ (ji30) then (if (ji30) < (((rd_T32 t118 x8_12).f2).size : Int) then (if (wrap64 (t125)) = (wrap64 (bt ((rd_T32 t118 x8_12).f2) (ji30))) then (if ((rd_T32 t118 x8_12).f0) = 1 then (if ((t125 == 10) != (((rd_T32 t118 x8_12).f1) == x7_1)) = true then (none) else (ridgewaylaw11_LexPlaces.l0 kj12 a0 t117 t118 t119 (wrap64 (x7_1 + 1)) x8_12 (wrap64 (x27_1 + t126)))) else (if ((t125 == 10) != false) = true then (none) else (ridgewaylaw11_LexPlaces.l0 kj12 a0 t117 t118 t119 (wrap64 (x7_1 + 1)) x8_12 (wrap64 (x27_1 + t126))))) else (none)) else (none)) else (none)) = some r := by first | (rw [hji30] at H; exact H) | (simp only [hji30] at H ⊢; exact H)
                              have hji30w : (IntKind.i64.wrap (x7_1 - ((rd_T32 t118 x8_12).f1))) = ji30 := (i64_w _).trans hji30
                              by_cases c31 : 0 ≤ (ji30)
                              · rw [if_pos c31] at H
                                have c31b0 : decide (0 ≤ (ji30)) = true := decide_eq_true c31
                                clear c31
                                by_cases c32 : (ji30) < (((rd_T32 t118 x8_12).f2).size : Int)
                                · rw [if_pos c32] at H
                                  have c32b0 : decide ((ji30) < (((rd_T32 t118 x8_12).f2).size : Int)) = true := decide_eq_true c32
                                  clear c32
                                  by_cases c34 : (wrap64 (t125)) = (wrap64 (bt ((rd_T32 t118 x8_12).f2) (ji30)))
                                  · rw [if_pos c34] at H
                                    have c34b0 : ((wrap64 (t125)) == (wrap64 (bt ((rd_T32 t118 x8_12).f2) (ji30)))) = true := beq_iff_eq.mpr c34
                                    have c34b1 : ((wrap64 (t125)) != (wrap64 (bt ((rd_T32 t118 x8_12).f2) (ji30)))) = false := bne_eq_false_iff_eq.mpr c34
                                    clear c34
                                    by_cases c35 : ((rd_T32 t118 x8_12).f0) = 1
                                    · rw [if_pos c35] at H
                                      have c35b0 : (((rd_T32 t118 x8_12).f0) == 1) = true := beq_iff_eq.mpr c35
                                      have c35b1 : (((rd_T32 t118 x8_12).f0) != 1) = false := bne_eq_false_iff_eq.mpr c35
                                      clear c35
                                      by_cases c36 : ((t125 == 10) != (((rd_T32 t118 x8_12).f1) == x7_1)) = true
                                      · rw [if_pos c36] at H
                                        exact absurd H (by simp)
                                      · rw [if_neg c36] at H
                                        have c36b0 : ((t125 == 10) != (((rd_T32 t118 x8_12).f1) == x7_1)) = false := by simpa using c36
                                        (try (have c36b1 : decide ((t125 == 10) = (((rd_T32 t118 x8_12).f1) == x7_1)) = true := by simpa using c36))
                                        (try (have c36b2 : ((t125 == 10) == (((rd_T32 t118 x8_12).f1) == x7_1)) = true := by simpa using c36))
                                        clear c36
                                        have H' := Aside0.mk H
                                        clear H
                                        obtain ⟨Ao37, co37, eo37⟩ := Kd.R_slice HO_4.out
                                        subst eo37
                                        have p131 : 0 ≤ (x8_12 : Int) := of_decide_eq_true (by first | (with_reducible assumption) | assumption)
                                        have q131 : x8_12 < (t118.length : Int) := of_decide_eq_true (by first | (with_reducible assumption) | assumption)
                                        obtain ⟨ad131, e131, hx131_0, hx131_1, hx131_2⟩ := at_T32 (Kd.R_reads' HO_4.out).2.2 x8_12 p131 q131
                                        cases e131
                                        replace p131 := eq_true p131
                                        replace q131 := eq_true q131
                                        have p132 : 0 ≤ (x8_12 : Int) := of_decide_eq_true (by first | (with_reducible assumption) | assumption)
                                        have q132 : x8_12 < (t118.length : Int) := of_decide_eq_true (by first | (with_reducible assumption) | assumption)
                                        obtain ⟨ad132, e132, hx132_0, hx132_1, hx132_2⟩ := at_T32 (Kd.R_reads' HO_4.out).2.2 x8_12 p132 q132
                                        obtain rfl : ad131 = ad132 := (by injection e132)
                                        replace p132 := eq_true p132
                                        replace q132 := eq_true q132
                                        have p133 : 0 ≤ (x8_12 : Int) := of_decide_eq_true (by first | (with_reducible assumption) | assumption)
                                        have q133 : x8_12 < (t118.length : Int) := of_decide_eq_true (by first | (with_reducible assumption) | assumption)
                                        obtain ⟨ad133, e133, hx133_0, hx133_1, hx133_2⟩ := at_T32 (Kd.R_reads' HO_4.out).2.2 x8_12 p133 q133
                                        obtain rfl : ad131 = ad133 := (by injection e133)
                                        replace p133 := eq_true p133
                                        replace q133 := eq_true q133
                                        have p134 : 0 ≤ (x8_12 : Int) := of_decide_eq_true (by first | (with_reducible assumption) | assumption)
                                        have q134 : x8_12 < (t118.length : Int) := of_decide_eq_true (by first | (with_reducible assumption) | assumption)
                                        obtain ⟨ad134, e134, hx134_0, hx134_1, hx134_2⟩ := at_T32 (Kd.R_reads' HO_4.out).2.2 x8_12 p134 q134
                                        obtain rfl : ad131 = ad134 := (by injection e134)
                                        replace p134 := eq_true p134
                                        replace q134 := eq_true q134
                                        have p33 : 0 ≤ ((ji30) : Int) := of_decide_eq_true (by first | (with_reducible assumption) | assumption)
                                        have q33 : (ji30) < (((rd_T32 t118 x8_12).f2).size : Int) := of_decide_eq_true (by first | (with_reducible assumption) | assumption)
                                        have hx33 := bt_at ((rd_T32 t118 x8_12).f2) (ji30)
                                        replace p33 := eq_true p33
                                        replace q33 := eq_true q33
                                        have p135 : 0 ≤ (x8_12 : Int) := of_decide_eq_true (by first | (with_reducible assumption) | assumption)
                                        have q135 : x8_12 < (t118.length : Int) := of_decide_eq_true (by first | (with_reducible assumption) | assumption)
                                        obtain ⟨ad135, e135, hx135_0, hx135_1, hx135_2⟩ := at_T32 (Kd.R_reads' HO_4.out).2.2 x8_12 p135 q135
                                        obtain rfl : ad131 = ad135 := (by injection e135)
                                        replace p135 := eq_true p135
                                        replace q135 := eq_true q135
                                        have p136 : 0 ≤ (x8_12 : Int) := of_decide_eq_true (by first | (with_reducible assumption) | assumption)
                                        have q136 : x8_12 < (t118.length : Int) := of_decide_eq_true (by first | (with_reducible assumption) | assumption)
                                        obtain ⟨ad136, e136, hx136_0, hx136_1, hx136_2⟩ := at_T32 (Kd.R_reads' HO_4.out).2.2 x8_12 p136 q136
                                        obtain rfl : ad131 = ad136 := (by injection e136)
                                        replace p136 := eq_true p136
                                        replace q136 := eq_true q136
                                        go_wp2
                                        repeat (go_quiet (fail); try go_wp2)
                                        go_roundg kj12
                                        case measure => have := HK1.out; have := HJ12.out; omega
                                        case rel => exact ⟨(wrap64 (x7_1 + 1)), (x8_12), ((wrap64 (x27_1 + t126))), (by first | rfl | (simp; done) | (simp [*]; done)), (by first | rfl | (simp; done) | (simp [*]; done)), ⟨HI.out⟩, H', ⟨by have := HK1.out; have := HJ12.out; omega⟩, ⟨by (with_reducible repeat (first | apply Kd.R_alloc | apply Kd.R_drewN | apply Kd.R_drew)); exact HO_4.out⟩, ⟨by repeat (first | (with_reducible first | exact HB.out | apply below_alloc | apply pw_below_drewN | apply below_drew1) | exact HB.out)⟩⟩
                                    · rw [if_neg c35] at H
                                      have c35b0 : (((rd_T32 t118 x8_12).f0) == 1) = false := beq_eq_false_iff_ne.mpr c35
                                      have c35b1 : (((rd_T32 t118 x8_12).f0) != 1) = true := bne_iff_ne.mpr c35
                                      by_cases c38 : ((t125 == 10) != false) = true
                                      · rw [if_pos c38] at H
                                        exact absurd H (by simp)
                                      · rw [if_neg c38] at H
                                        have c38b0 : ((t125 == 10) != false) = false := by simpa using c38
                                        (try (have c38b1 : decide ((t125 == 10) = false) = true := by simpa using c38))
                                        (try (have c38b2 : ((t125 == 10) == false) = true := by simpa using c38))
                                        clear c38
                                        have H' := Aside0.mk H
                                        clear H
                                        obtain ⟨Ao39, co39, eo39⟩ := Kd.R_slice HO_4.out
                                        subst eo39
                                        have p131 : 0 ≤ (x8_12 : Int) := of_decide_eq_true (by first | (with_reducible assumption) | assumption)
                                        have q131 : x8_12 < (t118.length : Int) := of_decide_eq_true (by first | (with_reducible assumption) | assumption)
                                        obtain ⟨ad131, e131, hx131_0, hx131_1, hx131_2⟩ := at_T32 (Kd.R_reads' HO_4.out).2.2 x8_12 p131 q131
                                        cases e131
                                        replace p131 := eq_true p131
                                        replace q131 := eq_true q131
                                        have p132 : 0 ≤ (x8_12 : Int) := of_decide_eq_true (by first | (with_reducible assumption) | assumption)
                                        have q132 : x8_12 < (t118.length : Int) := of_decide_eq_true (by first | (with_reducible assumption) | assumption)
                                        obtain ⟨ad132, e132, hx132_0, hx132_1, hx132_2⟩ := at_T32 (Kd.R_reads' HO_4.out).2.2 x8_12 p132 q132
                                        obtain rfl : ad131 = ad132 := (by injection e132)
                                        replace p132 := eq_true p132
                                        replace q132 := eq_true q132
                                        have p133 : 0 ≤ (x8_12 : Int) := of_decide_eq_true (by first | (with_reducible assumption) | assumption)
                                        have q133 : x8_12 < (t118.length : Int) := of_decide_eq_true (by first | (with_reducible assumption) | assumption)
                                        obtain ⟨ad133, e133, hx133_0, hx133_1, hx133_2⟩ := at_T32 (Kd.R_reads' HO_4.out).2.2 x8_12 p133 q133
                                        obtain rfl : ad131 = ad133 := (by injection e133)
                                        replace p133 := eq_true p133
                                        replace q133 := eq_true q133
                                        have p134 : 0 ≤ (x8_12 : Int) := of_decide_eq_true (by first | (with_reducible assumption) | assumption)
                                        have q134 : x8_12 < (t118.length : Int) := of_decide_eq_true (by first | (with_reducible assumption) | assumption)
                                        obtain ⟨ad134, e134, hx134_0, hx134_1, hx134_2⟩ := at_T32 (Kd.R_reads' HO_4.out).2.2 x8_12 p134 q134
                                        obtain rfl : ad131 = ad134 := (by injection e134)
                                        replace p134 := eq_true p134
                                        replace q134 := eq_true q134
                                        have p33 : 0 ≤ ((ji30) : Int) := of_decide_eq_true (by first | (with_reducible assumption) | assumption)
                                        have q33 : (ji30) < (((rd_T32 t118 x8_12).f2).size : Int) := of_decide_eq_true (by first | (with_reducible assumption) | assumption)
                                        have hx33 := bt_at ((rd_T32 t118 x8_12).f2) (ji30)
                                        replace p33 := eq_true p33
                                        replace q33 := eq_true q33
                                        have p135 : 0 ≤ (x8_12 : Int) := of_decide_eq_true (by first | (with_reducible assumption) | assumption)
                                        have q135 : x8_12 < (t118.length : Int) := of_decide_eq_true (by first | (with_reducible assumption) | assumption)
                                        obtain ⟨ad135, e135, hx135_0, hx135_1, hx135_2⟩ := at_T32 (Kd.R_reads' HO_4.out).2.2 x8_12 p135 q135
                                        obtain rfl : ad131 = ad135 := (by injection e135)
                                        replace p135 := eq_true p135
                                        replace q135 := eq_true q135
                                        go_wp2
                                        repeat (go_quiet (fail); try go_wp2)
                                        go_roundg kj12
                                        case measure => have := HK1.out; have := HJ12.out; omega
                                        case rel => exact ⟨(wrap64 (x7_1 + 1)), (x8_12), ((wrap64 (x27_1 + t126))), (by first | rfl | (simp; done) | (simp [*]; done)), (by first | rfl | (simp; done) | (simp [*]; done)), ⟨HI.out⟩, H', ⟨by have := HK1.out; have := HJ12.out; omega⟩, ⟨by (with_reducible repeat (first | apply Kd.R_alloc | apply Kd.R_drewN | apply Kd.R_drew)); exact HO_4.out⟩, ⟨by repeat (first | (with_reducible first | exact HB.out | apply below_alloc | apply pw_below_drewN | apply below_drew1) | exact HB.out)⟩⟩
                                  · rw [if_neg c34] at H
                                    exact absurd H (by simp)
                                · rw [if_neg c32] at H
                                  exact absurd H (by simp)
                              · rw [if_neg c31] at H
                                exact absurd H (by simp)
                            · rw [if_neg c29] at H
                              have c29b0 : decide (((rd_T32 t118 x8_12).f1) ≤ x7_1) = false := decide_eq_false c29
                              clear c29
                              by_cases c40 : ((rd_T32 t118 x8_12).f0) = 1
                              · rw [if_pos c40] at H
                                have c40b0 : (((rd_T32 t118 x8_12).f0) == 1) = true := beq_iff_eq.mpr c40
                                have c40b1 : (((rd_T32 t118 x8_12).f0) != 1) = false := bne_eq_false_iff_eq.mpr c40
                                clear c40
                                by_cases c41 : ((t125 == 10) != (((rd_T32 t118 x8_12).f1) == x7_1)) = true
                                · rw [if_pos c41] at H
                                  exact absurd H (by simp)
                                · rw [if_neg c41] at H
                                  have c41b0 : ((t125 == 10) != (((rd_T32 t118 x8_12).f1) == x7_1)) = false := by simpa using c41
                                  (try (have c41b1 : decide ((t125 == 10) = (((rd_T32 t118 x8_12).f1) == x7_1)) = true := by simpa using c41))
                                  (try (have c41b2 : ((t125 == 10) == (((rd_T32 t118 x8_12).f1) == x7_1)) = true := by simpa using c41))
                                  clear c41
                                  have H' := Aside0.mk H
                                  clear H
                                  obtain ⟨Ao42, co42, eo42⟩ := Kd.R_slice HO_4.out
                                  subst eo42
                                  have p131 : 0 ≤ (x8_12 : Int) := of_decide_eq_true (by first | (with_reducible assumption) | assumption)
                                  have q131 : x8_12 < (t118.length : Int) := of_decide_eq_true (by first | (with_reducible assumption) | assumption)
                                  obtain ⟨ad131, e131, hx131_0, hx131_1, hx131_2⟩ := at_T32 (Kd.R_reads' HO_4.out).2.2 x8_12 p131 q131
                                  cases e131
                                  replace p131 := eq_true p131
                                  replace q131 := eq_true q131
                                  have p132 : 0 ≤ (x8_12 : Int) := of_decide_eq_true (by first | (with_reducible assumption) | assumption)
                                  have q132 : x8_12 < (t118.length : Int) := of_decide_eq_true (by first | (with_reducible assumption) | assumption)
                                  obtain ⟨ad132, e132, hx132_0, hx132_1, hx132_2⟩ := at_T32 (Kd.R_reads' HO_4.out).2.2 x8_12 p132 q132
                                  obtain rfl : ad131 = ad132 := (by injection e132)
                                  replace p132 := eq_true p132
                                  replace q132 := eq_true q132
                                  have p137 : 0 ≤ (x8_12 : Int) := of_decide_eq_true (by first | (with_reducible assumption) | assumption)
                                  have q137 : x8_12 < (t118.length : Int) := of_decide_eq_true (by first | (with_reducible assumption) | assumption)
                                  obtain ⟨ad137, e137, hx137_0, hx137_1, hx137_2⟩ := at_T32 (Kd.R_reads' HO_4.out).2.2 x8_12 p137 q137
                                  obtain rfl : ad131 = ad137 := (by injection e137)
                                  replace p137 := eq_true p137
                                  replace q137 := eq_true q137
                                  have p138 : 0 ≤ (x8_12 : Int) := of_decide_eq_true (by first | (with_reducible assumption) | assumption)
                                  have q138 : x8_12 < (t118.length : Int) := of_decide_eq_true (by first | (with_reducible assumption) | assumption)
                                  obtain ⟨ad138, e138, hx138_0, hx138_1, hx138_2⟩ := at_T32 (Kd.R_reads' HO_4.out).2.2 x8_12 p138 q138
                                  obtain rfl : ad131 = ad138 := (by injection e138)
                                  replace p138 := eq_true p138
                                  replace q138 := eq_true q138
                                  go_wp2
                                  repeat (go_quiet (fail); try go_wp2)
                                  go_roundg kj12
                                  case measure => have := HK1.out; have := HJ12.out; omega
                                  case rel => exact ⟨(wrap64 (x7_1 + 1)), (x8_12), ((wrap64 (x27_1 + t126))), (by first | rfl | (simp; done) | (simp [*]; done)), (by first | rfl | (simp; done) | (simp [*]; done)), ⟨HI.out⟩, H', ⟨by have := HK1.out; have := HJ12.out; omega⟩, ⟨by (with_reducible repeat (first | apply Kd.R_alloc | apply Kd.R_drewN | apply Kd.R_drew)); exact HO_4.out⟩, ⟨by repeat (first | (with_reducible first | exact HB.out | apply below_alloc | apply pw_below_drewN | apply below_drew1) | exact HB.out)⟩⟩
                              · rw [if_neg c40] at H
                                have c40b0 : (((rd_T32 t118 x8_12).f0) == 1) = false := beq_eq_false_iff_ne.mpr c40
                                have c40b1 : (((rd_T32 t118 x8_12).f0) != 1) = true := bne_iff_ne.mpr c40
                                by_cases c43 : ((t125 == 10) != false) = true
                                · rw [if_pos c43] at H
                                  exact absurd H (by simp)
                                · rw [if_neg c43] at H
                                  have c43b0 : ((t125 == 10) != false) = false := by simpa using c43
                                  (try (have c43b1 : decide ((t125 == 10) = false) = true := by simpa using c43))
                                  (try (have c43b2 : ((t125 == 10) == false) = true := by simpa using c43))
                                  clear c43
                                  have H' := Aside0.mk H
                                  clear H
                                  obtain ⟨Ao44, co44, eo44⟩ := Kd.R_slice HO_4.out
                                  subst eo44
                                  have p131 : 0 ≤ (x8_12 : Int) := of_decide_eq_true (by first | (with_reducible assumption) | assumption)
                                  have q131 : x8_12 < (t118.length : Int) := of_decide_eq_true (by first | (with_reducible assumption) | assumption)
                                  obtain ⟨ad131, e131, hx131_0, hx131_1, hx131_2⟩ := at_T32 (Kd.R_reads' HO_4.out).2.2 x8_12 p131 q131
                                  cases e131
                                  replace p131 := eq_true p131
                                  replace q131 := eq_true q131
                                  have p132 : 0 ≤ (x8_12 : Int) := of_decide_eq_true (by first | (with_reducible assumption) | assumption)
                                  have q132 : x8_12 < (t118.length : Int) := of_decide_eq_true (by first | (with_reducible assumption) | assumption)
                                  obtain ⟨ad132, e132, hx132_0, hx132_1, hx132_2⟩ := at_T32 (Kd.R_reads' HO_4.out).2.2 x8_12 p132 q132
                                  obtain rfl : ad131 = ad132 := (by injection e132)
                                  replace p132 := eq_true p132
                                  replace q132 := eq_true q132
                                  have p137 : 0 ≤ (x8_12 : Int) := of_decide_eq_true (by first | (with_reducible assumption) | assumption)
                                  have q137 : x8_12 < (t118.length : Int) := of_decide_eq_true (by first | (with_reducible assumption) | assumption)
                                  obtain ⟨ad137, e137, hx137_0, hx137_1, hx137_2⟩ := at_T32 (Kd.R_reads' HO_4.out).2.2 x8_12 p137 q137
                                  obtain rfl : ad131 = ad137 := (by injection e137)
                                  replace p137 := eq_true p137
                                  replace q137 := eq_true q137
                                  go_wp2
                                  repeat (go_quiet (fail); try go_wp2)
                                  go_roundg kj12
                                  case measure => have := HK1.out; have := HJ12.out; omega
                                  case rel => exact ⟨(wrap64 (x7_1 + 1)), (x8_12), ((wrap64 (x27_1 + t126))), (by first | rfl | (simp; done) | (simp [*]; done)), (by first | rfl | (simp; done) | (simp [*]; done)), ⟨HI.out⟩, H', ⟨by have := HK1.out; have := HJ12.out; omega⟩, ⟨by (with_reducible repeat (first | apply Kd.R_alloc | apply Kd.R_drewN | apply Kd.R_drew)); exact HO_4.out⟩, ⟨by repeat (first | (with_reducible first | exact HB.out | apply below_alloc | apply pw_below_drewN | apply below_drew1) | exact HB.out)⟩⟩
                          · rw [if_neg c28] at H
                            have c28b0 : (((rd_T32 t118 x8_12).f0) == 0) = false := beq_eq_false_iff_ne.mpr c28
                            have c28b1 : (((rd_T32 t118 x8_12).f0) != 0) = true := bne_iff_ne.mpr c28
                            by_cases c45 : ((rd_T32 t118 x8_12).f0) = 1
                            · rw [if_pos c45] at H
                              have c45b0 : (((rd_T32 t118 x8_12).f0) == 1) = true := beq_iff_eq.mpr c45
                              have c45b1 : (((rd_T32 t118 x8_12).f0) != 1) = false := bne_eq_false_iff_eq.mpr c45
                              clear c45
                              by_cases c46 : ((t125 == 10) != (((rd_T32 t118 x8_12).f1) == x7_1)) = true
                              · rw [if_pos c46] at H
                                exact absurd H (by simp)
                              · rw [if_neg c46] at H
                                have c46b0 : ((t125 == 10) != (((rd_T32 t118 x8_12).f1) == x7_1)) = false := by simpa using c46
                                (try (have c46b1 : decide ((t125 == 10) = (((rd_T32 t118 x8_12).f1) == x7_1)) = true := by simpa using c46))
                                (try (have c46b2 : ((t125 == 10) == (((rd_T32 t118 x8_12).f1) == x7_1)) = true := by simpa using c46))
                                clear c46
                                have H' := Aside0.mk H
                                clear H
                                obtain ⟨Ao47, co47, eo47⟩ := Kd.R_slice HO_4.out
                                subst eo47
                                have p131 : 0 ≤ (x8_12 : Int) := of_decide_eq_true (by first | (with_reducible assumption) | assumption)
                                have q131 : x8_12 < (t118.length : Int) := of_decide_eq_true (by first | (with_reducible assumption) | assumption)
                                obtain ⟨ad131, e131, hx131_0, hx131_1, hx131_2⟩ := at_T32 (Kd.R_reads' HO_4.out).2.2 x8_12 p131 q131
                                cases e131
                                replace p131 := eq_true p131
                                replace q131 := eq_true q131
                                have p139 : 0 ≤ (x8_12 : Int) := of_decide_eq_true (by first | (with_reducible assumption) | assumption)
                                have q139 : x8_12 < (t118.length : Int) := of_decide_eq_true (by first | (with_reducible assumption) | assumption)
                                obtain ⟨ad139, e139, hx139_0, hx139_1, hx139_2⟩ := at_T32 (Kd.R_reads' HO_4.out).2.2 x8_12 p139 q139
                                obtain rfl : ad131 = ad139 := (by injection e139)
                                replace p139 := eq_true p139
                                replace q139 := eq_true q139
                                have p140 : 0 ≤ (x8_12 : Int) := of_decide_eq_true (by first | (with_reducible assumption) | assumption)
                                have q140 : x8_12 < (t118.length : Int) := of_decide_eq_true (by first | (with_reducible assumption) | assumption)
                                obtain ⟨ad140, e140, hx140_0, hx140_1, hx140_2⟩ := at_T32 (Kd.R_reads' HO_4.out).2.2 x8_12 p140 q140
                                obtain rfl : ad131 = ad140 := (by injection e140)
                                replace p140 := eq_true p140
                                replace q140 := eq_true q140
                                go_wp2
                                repeat (go_quiet (fail); try go_wp2)
                                go_roundg kj12
                                case measure => have := HK1.out; have := HJ12.out; omega
                                case rel => exact ⟨(wrap64 (x7_1 + 1)), (x8_12), ((wrap64 (x27_1 + t126))), (by first | rfl | (simp; done) | (simp [*]; done)), (by first | rfl | (simp; done) | (simp [*]; done)), ⟨HI.out⟩, H', ⟨by have := HK1.out; have := HJ12.out; omega⟩, ⟨by (with_reducible repeat (first | apply Kd.R_alloc | apply Kd.R_drewN | apply Kd.R_drew)); exact HO_4.out⟩, ⟨by repeat (first | (with_reducible first | exact HB.out | apply below_alloc | apply pw_below_drewN | apply below_drew1) | exact HB.out)⟩⟩
                            · rw [if_neg c45] at H
                              have c45b0 : (((rd_T32 t118 x8_12).f0) == 1) = false := beq_eq_false_iff_ne.mpr c45
                              have c45b1 : (((rd_T32 t118 x8_12).f0) != 1) = true := bne_iff_ne.mpr c45
                              by_cases c48 : ((t125 == 10) != false) = true
                              · rw [if_pos c48] at H
                                exact absurd H (by simp)
                              · rw [if_neg c48] at H
                                have c48b0 : ((t125 == 10) != false) = false := by simpa using c48
                                (try (have c48b1 : decide ((t125 == 10) = false) = true := by simpa using c48))
                                (try (have c48b2 : ((t125 == 10) == false) = true := by simpa using c48))
                                clear c48
                                have H' := Aside0.mk H
                                clear H
                                obtain ⟨Ao49, co49, eo49⟩ := Kd.R_slice HO_4.out
                                subst eo49
                                have p131 : 0 ≤ (x8_12 : Int) := of_decide_eq_true (by first | (with_reducible assumption) | assumption)
                                have q131 : x8_12 < (t118.length : Int) := of_decide_eq_true (by first | (with_reducible assumption) | assumption)
                                obtain ⟨ad131, e131, hx131_0, hx131_1, hx131_2⟩ := at_T32 (Kd.R_reads' HO_4.out).2.2 x8_12 p131 q131
                                cases e131
                                replace p131 := eq_true p131
                                replace q131 := eq_true q131
                                have p139 : 0 ≤ (x8_12 : Int) := of_decide_eq_true (by first | (with_reducible assumption) | assumption)
                                have q139 : x8_12 < (t118.length : Int) := of_decide_eq_true (by first | (with_reducible assumption) | assumption)
                                obtain ⟨ad139, e139, hx139_0, hx139_1, hx139_2⟩ := at_T32 (Kd.R_reads' HO_4.out).2.2 x8_12 p139 q139
                                obtain rfl : ad131 = ad139 := (by injection e139)
                                replace p139 := eq_true p139
                                replace q139 := eq_true q139
                                go_wp2
                                repeat (go_quiet (fail); try go_wp2)
                                go_roundg kj12
                                case measure => have := HK1.out; have := HJ12.out; omega
                                case rel => exact ⟨(wrap64 (x7_1 + 1)), (x8_12), ((wrap64 (x27_1 + t126))), (by first | rfl | (simp; done) | (simp [*]; done)), (by first | rfl | (simp; done) | (simp [*]; done)), ⟨HI.out⟩, H', ⟨by have := HK1.out; have := HJ12.out; omega⟩, ⟨by (with_reducible repeat (first | apply Kd.R_alloc | apply Kd.R_drewN | apply Kd.R_drew)); exact HO_4.out⟩, ⟨by repeat (first | (with_reducible first | exact HB.out | apply below_alloc | apply pw_below_drewN | apply below_drew1) | exact HB.out)⟩⟩
                        · rw [if_neg c27] at H
                          exact absurd H (by simp)
                      · rw [if_neg c26] at H
                        exact absurd H (by simp)
              · rw [if_neg c11] at H
                exact absurd H (by simp)
            · rw [if_neg c10] at H
              exact absurd H (by simp)
          · rw [if_neg c9] at H
            have c9b0 : decide (x27_1 < (a0.size : Int)) = false := decide_eq_false c9
            obtain ⟨hx0, hx1, hit⟩ := HIT.out
            have hxlt : ¬ x27_1 < (a0.size : Int) := of_decide_eq_false c9b0
            have hnx : ∀ ty, (Instr.next (.pointer (some ⟨w8.heap.size, 0, none⟩)) true ty).run Tryd.prog wr = _ := fun ty => Lib.run_next_end_at wr w8.heap.size a0 x27_1.toNat ty hit (by omega)
            clear c9
            by_cases c50 : t117 = true
            · subst c50
              have H1 : (if t119 = x7_1 then (if 0 ≤ (wrap64 ((t118.length : Int) - 1)) then (if (wrap64 ((t118.length : Int) - 1)) < (t118.length : Int) then (if ((rd_T32 t118 (wrap64 ((t118.length : Int) - 1))).f0) = 2 then (some (((rd_T32 t118 (wrap64 ((t118.length : Int) - 1))).f1) == x7_1)) else (none)) else (none)) else (none)) else (none)) = some r := by rw [if_pos rfl] at H; exact H
              clear H
              have H := H1
              clear H1
              by_cases c51 : t119 = x7_1
              · rw [if_pos c51] at H
                have c51b0 : (t119 == x7_1) = true := beq_iff_eq.mpr c51
                have c51b1 : (t119 != x7_1) = false := bne_eq_false_iff_eq.mpr c51
                clear c51
                obtain ⟨ji52, hji52⟩ : ∃ j_ : Int, (wrap64 ((t118.length : Int) - 1)) = j_ := ⟨_, rfl⟩
                replace H : (if 0 ≤ (ji52) then (if (ji52) < (t118.length : Int) then (if ((rd_T32 t118 (ji52)).f0) = 2 then (some (((rd_T32 t118 (ji52)).f1) == x7_1)) else (none)) else (none)) else (none)) = some r := by first | (rw [hji52] at H; exact H) | (simp only [hji52] at H ⊢; exact H)
                have hji52w : (IntKind.i64.wrap ((t118.length : Int) - 1)) = ji52 := (i64_w _).trans hji52
                by_cases c53 : 0 ≤ (ji52)
                · rw [if_pos c53] at H
                  have c53b0 : decide (0 ≤ (ji52)) = true := decide_eq_true c53
                  clear c53
                  by_cases c54 : (ji52) < (t118.length : Int)
                  · rw [if_pos c54] at H
                    have c54b0 : decide ((ji52) < (t118.length : Int)) = true := decide_eq_true c54
                    clear c54
                    by_cases c55 : ((rd_T32 t118 (ji52)).f0) = 2
                    · rw [if_pos c55] at H
                      have c55b0 : (((rd_T32 t118 (ji52)).f0) == 2) = true := beq_iff_eq.mpr c55
                      have c55b1 : (((rd_T32 t118 (ji52)).f0) != 2) = false := bne_eq_false_iff_eq.mpr c55
                      clear c55
                      obtain rfl := Option.some.inj H
                      obtain ⟨Ao56, co56, eo56⟩ := Kd.R_slice HO_4.out
                      subst eo56
                      have p123 : 0 ≤ ((ji52) : Int) := of_decide_eq_true (by first | (with_reducible assumption) | assumption)
                      have q123 : (ji52) < (t118.length : Int) := of_decide_eq_true (by first | (with_reducible assumption) | assumption)
                      obtain ⟨ad123, e123, hx123_0, hx123_1, hx123_2⟩ := at_T32 (Kd.R_reads' HO_4.out).2.2 (ji52) p123 q123
                      cases e123
                      replace p123 := eq_true p123
                      replace q123 := eq_true q123
                      have p124 : 0 ≤ ((ji52) : Int) := of_decide_eq_true (by first | (with_reducible assumption) | assumption)
                      have q124 : (ji52) < (t118.length : Int) := of_decide_eq_true (by first | (with_reducible assumption) | assumption)
                      obtain ⟨ad124, e124, hx124_0, hx124_1, hx124_2⟩ := at_T32 (Kd.R_reads' HO_4.out).2.2 (ji52) p124 q124
                      obtain rfl : ad123 = ad124 := (by injection e124)
                      replace p124 := eq_true p124
                      replace q124 := eq_true q124
                      go_wp2
                      repeat (go_quiet (fail); try go_wp2)
                      go_ret
                      exact ⟨by first | rfl | (simp [errW_none, errW_some] <;> rfl) | (simp only [← hji52]; first | rfl | (simp [errW_none, errW_some] <;> rfl)) | (simp [*, errW_none, errW_some] <;> rfl), by repeat (first | (with_reducible first | exact HB.out | apply below_alloc | apply pw_below_drewN | apply below_drew1) | exact HB.out)⟩
                    · rw [if_neg c55] at H
                      exact absurd H (by simp)
                  · rw [if_neg c54] at H
                    exact absurd H (by simp)
                · rw [if_neg c53] at H
                  exact absurd H (by simp)
              · rw [if_neg c51] at H
                exact absurd H (by simp)
            · replace c50 := Bool.eq_false_iff.mpr c50
              subst c50
              have H1 : (none) = some r := by rw [if_neg (show ¬ (false = true) by decide)] at H; exact H
              clear H
              have H := H1
              clear H1
              exact absurd H (by simp)
    · rw [if_neg c6] at H
      have c6b0 : (t120 == 0) = false := beq_eq_false_iff_ne.mpr c6
      have c6b1 : (t120 != 0) = true := bne_iff_ne.mpr c6
      obtain rfl := Option.some.inj H
      go_enter Tryd.func5, Tryd.ntmps5
      go_wp2_with (first | (go_at_call 9; (with_reducible refine (ridgewaylaw11_awake.calls  t117 _ ?side1 A2.out).mono ?_); (case side1 => exact Tabs.below HT.out (by repeat (first | (with_reducible first | exact HB.out | apply below_alloc | apply pw_below_drewN | apply below_drew1) | exact HB.out))); rintro e w57 ⟨rfl, hb⟩; have n0_ := Aside0.mk (below_step (by repeat (first | (with_reducible first | exact HB.out | apply below_alloc | apply pw_below_drewN | apply below_drew1) | exact HB.out)) hb); clear HB; have HB := n0_; clear n0_; (try clear hb); (try clear hb2); (try clear hk); (try clear hi)) | (go_at_call 11; (with_reducible refine (lex_All.calls a0 t118 t119 t120 _ ?side1 A5.out).mono ?_); (case side1 => exact Tabs.below HT.out (by repeat (first | (with_reducible first | exact HB.out | apply below_alloc | apply pw_below_drewN | apply below_drew1) | exact HB.out))); rintro e w58 ⟨v121, rfl, ho0, hb⟩; have n0_ := Aside0.mk (Kd.R_lower ho0 (below_size (by repeat (first | (with_reducible first | exact HB.out | apply below_alloc | apply pw_below_drewN | apply below_drew1) | exact HB.out)))); have n1_ := Aside0.mk (below_step (by repeat (first | (with_reducible first | exact HB.out | apply below_alloc | apply pw_below_drewN | apply below_drew1) | exact HB.out)) hb); clear HB; have HO122 := n0_; have HB := n1_; clear n0_ n1_; (try clear hb); (try clear hb2); (try clear hk); (try clear hi); (try clear ho0)))
      repeat (go_quiet (first | (go_at_call 9; (with_reducible refine (ridgewaylaw11_awake.calls  t117 _ ?side1 A2.out).mono ?_); (case side1 => exact Tabs.below HT.out (by repeat (first | (with_reducible first | exact HB.out | apply below_alloc | apply pw_below_drewN | apply below_drew1) | exact HB.out))); rintro e w57 ⟨rfl, hb⟩; have n0_ := Aside0.mk (below_step (by repeat (first | (with_reducible first | exact HB.out | apply below_alloc | apply pw_below_drewN | apply below_drew1) | exact HB.out)) hb); clear HB; have HB := n0_; clear n0_; (try clear hb); (try clear hb2); (try clear hk); (try clear hi)) | (go_at_call 11; (with_reducible refine (lex_All.calls a0 t118 t119 t120 _ ?side1 A5.out).mono ?_); (case side1 => exact Tabs.below HT.out (by repeat (first | (with_reducible first | exact HB.out | apply below_alloc | apply pw_below_drewN | apply below_drew1) | exact HB.out))); rintro e w58 ⟨v121, rfl, ho0, hb⟩; have n0_ := Aside0.mk (Kd.R_lower ho0 (below_size (by repeat (first | (with_reducible first | exact HB.out | apply below_alloc | apply pw_below_drewN | apply below_drew1) | exact HB.out)))); have n1_ := Aside0.mk (below_step (by repeat (first | (with_reducible first | exact HB.out | apply below_alloc | apply pw_below_drewN | apply below_drew1) | exact HB.out)) hb); clear HB; have HO122 := n0_; have HB := n1_; clear n0_ n1_; (try clear hb); (try clear hb2); (try clear hk); (try clear hi); (try clear ho0))); try go_wp2_with (first | (go_at_call 9; (with_reducible refine (ridgewaylaw11_awake.calls  t117 _ ?side1 A2.out).mono ?_); (case side1 => exact Tabs.below HT.out (by repeat (first | (with_reducible first | exact HB.out | apply below_alloc | apply pw_below_drewN | apply below_drew1) | exact HB.out))); rintro e w57 ⟨rfl, hb⟩; have n0_ := Aside0.mk (below_step (by repeat (first | (with_reducible first | exact HB.out | apply below_alloc | apply pw_below_drewN | apply below_drew1) | exact HB.out)) hb); clear HB; have HB := n0_; clear n0_; (try clear hb); (try clear hb2); (try clear hk); (try clear hi)) | (go_at_call 11; (with_reducible refine (lex_All.calls a0 t118 t119 t120 _ ?side1 A5.out).mono ?_); (case side1 => exact Tabs.below HT.out (by repeat (first | (with_reducible first | exact HB.out | apply below_alloc | apply pw_below_drewN | apply below_drew1) | exact HB.out))); rintro e w58 ⟨v121, rfl, ho0, hb⟩; have n0_ := Aside0.mk (Kd.R_lower ho0 (below_size (by repeat (first | (with_reducible first | exact HB.out | apply below_alloc | apply pw_below_drewN | apply below_drew1) | exact HB.out)))); have n1_ := Aside0.mk (below_step (by repeat (first | (with_reducible first | exact HB.out | apply below_alloc | apply pw_below_drewN | apply below_drew1) | exact HB.out)) hb); clear HB; have HO122 := n0_; have HB := n1_; clear n0_ n1_; (try clear hb); (try clear hb2); (try clear hk); (try clear hi); (try clear ho0))))
      go_ret
      exact ⟨by first | rfl | (simp [errW_none, errW_some] <;> rfl) | (simp [*, errW_none, errW_some] <;> rfl), by repeat (first | (with_reducible first | exact HB.out | apply below_alloc | apply pw_below_drewN | apply below_drew1) | exact HB.out)⟩

end Go.Proofs.YtmohglifmoecnaaDoor.PPla
