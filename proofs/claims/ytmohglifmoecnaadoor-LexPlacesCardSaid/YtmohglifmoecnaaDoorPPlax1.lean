-- Written by a program of this session's (wip/tools), out of the translation. Lean checks it.
import Derived.Test.YtmohglifmoecnaaDoorPPlax0
namespace Go.Proofs.YtmohglifmoecnaaDoor.PPla
open Go.RowKit Go.Proofs.YtmohglifmoecnaaDoorW.PrintWords Go.Proofs.YtmohglifmoecnaaDoorW.PrintLast Go.Proofs.YtmohglifmoecnaaDoorW.PrintMore
attribute [local go_sem] max2_int min2_int max_two min_two max_three min_three max_four min_four   -- for this text's walks alone
set_option linter.unusedVariables false
set_option linter.unusedSimpArgs false

/-! ### strings_ContainsRune: function 27 (ours) -/

theorem ex_then_ret (K : Act → World → Prop) (Q : Exit → Act → World → Prop) (a : Act) (w : World) : Exit.then K Q Exit.ret a w = Q Exit.ret a w := rfl
theorem ex_inBlock_ret (n : Nat) (Q : Exit → Act → World → Prop) (a : Act) (w : World) : Exit.inBlock n Q Exit.ret a w = Q Exit.ret a w := rfl
def signsB : ByteArray := ⟨#[46, 47, 45]⟩
theorem signs_small (pos : Nat) (h : pos < signsB.size) : (Utf8.decode signsB pos).1 < 128 := by
  have h3 : signsB.size = 3 := rfl
  have : pos = 0 ∨ pos = 1 ∨ pos = 2 := by omega
  rcases this with rfl | rfl | rfl <;> decide +kernel
theorem signs_width (pos : Nat) (h : pos < signsB.size) : (Utf8.decode signsB pos).2 = 1 := by
  have h3 : signsB.size = 3 := rfl
  have : pos = 0 ∨ pos = 1 ∨ pos = 2 := by omega
  rcases this with rfl | rfl | rfl <;> decide +kernel
theorem signs_ascii : ∀ b ∈ signsB.data.toList, b.toNat < 128 := by decide
theorem indexByte_no (c : UInt8) : ∀ (l : List UInt8), c ∉ l → Lib.indexByte l c = -1
  | [], _ => rfl
  | b :: l, h => by
    have hb : ¬ (b = c) := fun e => h (by rw [e]; exact List.mem_cons_self ..)
    have hl : c ∉ l := fun e => h (List.mem_cons_of_mem _ e)
    simp [Lib.indexByte, hb, indexByte_no c l hl]
set_option maxHeartbeats 1000000 in
set_option maxRecDepth 1000000 in
theorem IndexRune_high (r : Int) (w : World) (h0 : 128 ≤ r) (h1 : r ≤ 1114111) :
    Calls Tryd.prog 29 #[.string signsB, .int .i32 r] w fun e w' => e = .returned (.int .i64 (-1)) ∧ Below w.heap.size w w' := by
  by_cases hE : r = 65533
  · subst hE
    go_enter Tryd.func29, Tryd.ntmps29
    go_wp2
    go_loopw [] (fun w' => ∃ pos : Nat, w' = w.iter signsB pos) (fun w' => signsB.size - w'.iterPos w.heap.size)
    case atStart => exact ⟨0, rfl⟩
    case round =>
      obtain ⟨pos, rfl⟩ := hrel
      by_cases hp : pos < signsB.size
      · have hnx : ∀ ty, (Instr.next (.pointer (some ⟨w.heap.size, 0, none⟩)) true ty).run Tryd.prog (w.iter signsB pos) = _ := fun ty => run_next_any w signsB pos ty hp
        have hs := signs_small pos hp
        have hwd := signs_width pos hp
        have hne : ¬ ((Utf8.decode signsB pos).1 = 65533) := by omega
        have hne' : (((Utf8.decode signsB pos).1 : Int) == 65533) = false := by
          rw [beq_eq_false_iff_ne]
          omega
        go_wp2
        go_roundw
        case rel => exact ⟨_, rfl⟩
        case measure =>
          simp
          omega
      · have hnx : ∀ ty, (Instr.next (.pointer (some ⟨w.heap.size, 0, none⟩)) true ty).run Tryd.prog (w.iter signsB pos) = _ := fun ty => run_next_end w signsB pos ty hp
        go_wp2
        go_ret
        exact ⟨rfl, (Below.refl _ w).alloc (Nat.le_refl _) _⟩
  · have hv0 : Lib.validRune r = validRune r := rfl
    cases hv : Lib.validRune r
    · go_enter Tryd.func29, Tryd.ntmps29
      go_wp2_with (go_at_call 31; refine (Tryd.utf8_ValidRune r _).mono ?_; rintro e w' ⟨rfl, hw⟩; subst hw; rw [hv])
      go_ret
      exact ⟨rfl, Below.refl _ _⟩
    · obtain ⟨hn2, hn4, hlast⟩ := encode_facts r (by rw [validRune_eq, ← hv0, hv]) h0
      have hc := fun W => run_convert_int_string (P := Tryd.prog) W 21 9 .i32 r (by kernel_rfl) Tryd.underlying9
      have hsz3 : signsB.size = 3 := rfl
      go_enter Tryd.func29, Tryd.ntmps29
      go_wp2_with (go_at_call 31; refine (Tryd.utf8_ValidRune r _).mono ?_; rintro e w' ⟨rfl, hw⟩; subst hw; rw [hv])
      clear hc hv0
      have hwrap : IntKind.i64.wrap ((Utf8.encode r).size - 1) = (((Utf8.encode r).size - 1 : Nat) : Int) := by rw [IntKind.wrap_i64] <;> omega
      go_step3
      go_wp2
      obtain ⟨m, hm⟩ : ∃ m, m = (Utf8.encode r).size - 1 := ⟨_, rfl⟩
      rw [← hm] at hwrap hlast
      rw [← hm]
      go_loopw [9] (fun n wr => n = .int .i64 (m : Int) ∧ wr = w') (fun _ _ => 0)
      case atStart => exact ⟨rfl, rfl⟩
      case round =>
        obtain ⟨rfl, rfl⟩ := hrel
        by_cases hlt : m < signsB.size
        · have hlt' : (m : Int) < (signsB.size : Int) := by omega
          have hb1 : (signsB[m]'hlt).toNat < 128 := signs_ascii _ (Array.getElem_mem_toList (xs := signsB.data) hlt)
          have hme : m < (Utf8.encode r).size := by omega
          have hb2 := hlast hme
          have hi0 : (0 : Int) ≤ (m : Int) := by omega
          have hme' : (m : Int) < ((Utf8.encode r).size : Int) := by omega
          have hne1 : (((signsB[m]'hlt).toNat : Int) == (((Utf8.encode r)[m]'hme).toNat : Int)) = false := by
            rw [beq_eq_false_iff_ne]
            omega
          have hne2 : (((signsB[m]'hlt).toNat : Int) != (((Utf8.encode r)[m]'hme).toNat : Int)) = true := by
            rw [bne_iff_ne]
            omega
          subst hm
          go_wp2
          go_step3
          go_wp2
          go_quiet (fail)
          go_wp2
          have hw1 : IntKind.i64.wrap (((((Utf8.encode r).size - 1 : Nat) : Int)) + 1) = (((Utf8.encode r).size : Nat) : Int) := by rw [IntKind.wrap_i64] <;> omega
          have hb0 : (0 : Int) ≤ ((Utf8.encode r).size : Int) := by omega
          have hb3 : ((Utf8.encode r).size : Int) ≤ 3 := by omega
          have hb4 : (Utf8.encode r).size ≤ 3 := by omega
          go_quiet (exact (Tryd.strings_IndexByte _ _ _).mono (fun _ _ h => ⟨h.1, _, h.2⟩))
          have hix : Lib.indexByte (signsB.extract (Utf8.encode r).size 3).data.toList (((((Utf8.encode r)[(Utf8.encode r).size - 1]'hme).toNat : Int)).toNat.toUInt8) = -1 := by
            refine indexByte_no _ _ fun hin => ?_
            have h1 := signs_ascii _ (mem_extract hin)
            simp at h1
            omega
          generalize Lib.indexByte (signsB.extract (Utf8.encode r).size 3).data.toList (((((Utf8.encode r)[(Utf8.encode r).size - 1]'hme).toNat : Int)).toNat.toUInt8) = q at hix ⊢
          subst hix
          go_wp2
          simp (config := { zetaDelta := true }) only [ex_inBlock_ret, ex_then_ret, Exit.noGoto_ret]
          go_ret
          exact ⟨rfl, pw_below_drewN (Below.refl _ _) _⟩
        · have hlt' : ¬ (m : Int) < (signsB.size : Int) := by omega
          go_wp2
          go_ret
          exact ⟨rfl, Below.refl _ _⟩
set_option maxHeartbeats 4000000 in
set_option maxRecDepth 1000000 in
theorem ContainsRune_at (r : Int) (w : World) (h0 : 0 ≤ r) (h1 : r ≤ 1114111) :
    Calls Tryd.prog 27 #[.string signsB, .int .i32 r] w fun e w' => e = .returned (.bool (decide (r = 45 ∨ r = 46 ∨ r = 47))) ∧ Below w.heap.size w w' := by
  by_cases h : r < 128
  · refine (Tryd.strings_ContainsRune_ascii signsB r w h0 h).mono ?_
    rintro e w' ⟨rfl, rfl⟩
    refine ⟨?_, Below.refl _ _⟩
    have key : ∀ n : Fin 128, decide (0 ≤ Lib.indexByte signsB.data.toList ((n.val : Int).toNat.toUInt8)) = decide ((n.val : Int) = 45 ∨ (n.val : Int) = 46 ∨ (n.val : Int) = 47) := by decide +kernel
    have := key ⟨r.toNat, by omega⟩
    rw [show ((r.toNat : Nat) : Int) = r by omega] at this
    rw [this]
  · have hd : decide (r = 45 ∨ r = 46 ∨ r = 47) = false := by
      rw [decide_eq_false_iff_not]
      omega
    rw [hd]
    go_enter Tryd.func27, Tryd.ntmps27
    go_wp2_with (go_at_call 29; refine (IndexRune_high r _ (by omega) h1).mono ?_; rintro e w' ⟨rfl, hb⟩)
    go_ret
    exact ⟨rfl, hb⟩
def strings_ContainsRune.f (a0 : ByteArray) (a1 : Int) : Option Bool := if 0 ≤ a1 ∧ a1 ≤ 1114111 ∧ a0.data.toList = [46, 47, 45] then some (decide (a1 = 45 ∨ a1 = 46 ∨ a1 = 47)) else none
theorem strings_ContainsRune.calls (a0 : ByteArray) (a1 : Int) (r : Bool) (w : World) (h : strings_ContainsRune.f a0 a1 = some r) :
    Calls Tryd.prog 27 #[.string a0, .int .i32 a1] w fun e w' => e = .returned (.bool r) ∧ Below w.heap.size w w' := by
  unfold strings_ContainsRune.f at h
  by_cases hc : 0 ≤ a1 ∧ a1 ≤ 1114111 ∧ a0.data.toList = [46, 47, 45]
  · rw [if_pos hc] at h
    obtain rfl := Option.some.inj h
    obtain ⟨h0, h1, h2⟩ := hc
    have e : a0 = signsB := by
      cases a0
      simp only [signsB, ByteArray.mk.injEq]
      exact Array.toList_inj.1 h2
    rw [e]
    exact ContainsRune_at a1 w h0 h1
  · rw [if_neg hc] at h
    cases h

/-! ### lex_letter: function 24 -/
def lex_letter.f (a0 : Int) : Option (Bool) := if a0 ≥ 97 then (if a0 ≤ 122 then (some true) else (if a0 ≥ 48 then (if a0 ≤ 57 then (some true) else ((strings_ContainsRune.f (⟨#[46, 47, 45]⟩ : ByteArray) a0).bind fun t101 => (some t101))) else ((strings_ContainsRune.f (⟨#[46, 47, 45]⟩ : ByteArray) a0).bind fun t102 => (some t102)))) else (if a0 ≥ 48 then (if a0 ≤ 57 then (some true) else ((strings_ContainsRune.f (⟨#[46, 47, 45]⟩ : ByteArray) a0).bind fun t103 => (some t103))) else ((strings_ContainsRune.f (⟨#[46, 47, 45]⟩ : ByteArray) a0).bind fun t104 => (some t104)))
set_option maxHeartbeats 8000000 in
set_option maxRecDepth 100000 in
theorem lex_letter.calls (a0 : Int) (r : Bool) (w : World) (h : lex_letter.f a0 = some r) :
    Calls Tryd.prog 24 #[.int .i32 a0] w fun e w' => e = .returned (.bool r) ∧ Below w.heap.size w w' := by
  have HB := Aside0.mk (Below.refl w.heap.size w)
  have H : (if a0 ≥ 97 then (if a0 ≤ 122 then (some true) else (if a0 ≥ 48 then (if a0 ≤ 57 then (some true) else ((strings_ContainsRune.f (⟨#[46, 47, 45]⟩ : ByteArray) a0).bind fun t101 => (some t101))) else ((strings_ContainsRune.f (⟨#[46, 47, 45]⟩ : ByteArray) a0).bind fun t102 => (some t102)))) else (if a0 ≥ 48 then (if a0 ≤ 57 then (some true) else ((strings_ContainsRune.f (⟨#[46, 47, 45]⟩ : ByteArray) a0).bind fun t103 => (some t103))) else ((strings_ContainsRune.f (⟨#[46, 47, 45]⟩ : ByteArray) a0).bind fun t104 => (some t104)))) = some r := h
  clear h
  by_cases c2 : a0 ≥ 97
  · rw [if_pos c2] at H
    have c2b0 : decide (97 ≤ a0) = true := decide_eq_true c2
    clear c2
    by_cases c3 : a0 ≤ 122
    · rw [if_pos c3] at H
      have c3b0 : decide (a0 ≤ 122) = true := decide_eq_true c3
      clear c3
      obtain rfl := Option.some.inj H
      go_enter Tryd.func24, Tryd.ntmps24
      go_wp2
      go_ret
      exact ⟨by first | rfl | (simp [errW_none, errW_some] <;> rfl) | (simp [*, errW_none, errW_some] <;> rfl), by repeat (first | (with_reducible first | exact HB.out | apply below_alloc | apply pw_below_drewN | apply below_drew1) | exact HB.out)⟩
    · rw [if_neg c3] at H
      have c3b0 : decide (a0 ≤ 122) = false := decide_eq_false c3
      clear c3
      by_cases c4 : a0 ≥ 48
      · rw [if_pos c4] at H
        have c4b0 : decide (48 ≤ a0) = true := decide_eq_true c4
        clear c4
        by_cases c5 : a0 ≤ 57
        · rw [if_pos c5] at H
          have c5b0 : decide (a0 ≤ 57) = true := decide_eq_true c5
          clear c5
          obtain rfl := Option.some.inj H
          go_enter Tryd.func24, Tryd.ntmps24
          go_wp2
          go_ret
          exact ⟨by first | rfl | (simp [errW_none, errW_some] <;> rfl) | (simp [*, errW_none, errW_some] <;> rfl), by repeat (first | (with_reducible first | exact HB.out | apply below_alloc | apply pw_below_drewN | apply below_drew1) | exact HB.out)⟩
        · rw [if_neg c5] at H
          have c5b0 : decide (a0 ≤ 57) = false := decide_eq_false c5
          clear c5
          replace H := Option.bind_eq_some_iff.mp H
          obtain ⟨t101, A60, H⟩ := H
          replace H : (some t101) = some r := H
          have A6 := Aside0.mk A60
          clear A60
          obtain rfl := Option.some.inj H
          go_enter Tryd.func24, Tryd.ntmps24
          go_wp2_with (first | (go_at_call 27; (with_reducible refine (strings_ContainsRune.calls (⟨#[46, 47, 45]⟩ : ByteArray) a0 t101 _ A6.out).mono ?_); rintro e w7 ⟨rfl, hb⟩; have n0_ := Aside0.mk (below_step (by repeat (first | (with_reducible first | exact HB.out | apply below_alloc | apply pw_below_drewN | apply below_drew1) | exact HB.out)) hb); clear HB; have HB := n0_; clear n0_; (try clear hb); (try clear hb2); (try clear hk); (try clear hi)))
          go_ret
          exact ⟨by first | rfl | (simp [errW_none, errW_some] <;> rfl) | (simp [*, errW_none, errW_some] <;> rfl), by repeat (first | (with_reducible first | exact HB.out | apply below_alloc | apply pw_below_drewN | apply below_drew1) | exact HB.out)⟩
      · rw [if_neg c4] at H
        have c4b0 : decide (48 ≤ a0) = false := decide_eq_false c4
        clear c4
        replace H := Option.bind_eq_some_iff.mp H
        obtain ⟨t102, A80, H⟩ := H
        replace H : (some t102) = some r := H
        have A8 := Aside0.mk A80
        clear A80
        obtain rfl := Option.some.inj H
        go_enter Tryd.func24, Tryd.ntmps24
        go_wp2_with (first | (go_at_call 27; (with_reducible refine (strings_ContainsRune.calls (⟨#[46, 47, 45]⟩ : ByteArray) a0 t102 _ A8.out).mono ?_); rintro e w9 ⟨rfl, hb⟩; have n0_ := Aside0.mk (below_step (by repeat (first | (with_reducible first | exact HB.out | apply below_alloc | apply pw_below_drewN | apply below_drew1) | exact HB.out)) hb); clear HB; have HB := n0_; clear n0_; (try clear hb); (try clear hb2); (try clear hk); (try clear hi)))
        go_ret
        exact ⟨by first | rfl | (simp [errW_none, errW_some] <;> rfl) | (simp [*, errW_none, errW_some] <;> rfl), by repeat (first | (with_reducible first | exact HB.out | apply below_alloc | apply pw_below_drewN | apply below_drew1) | exact HB.out)⟩
  · rw [if_neg c2] at H
    have c2b0 : decide (97 ≤ a0) = false := decide_eq_false c2
    clear c2
    by_cases c10 : a0 ≥ 48
    · rw [if_pos c10] at H
      have c10b0 : decide (48 ≤ a0) = true := decide_eq_true c10
      clear c10
      by_cases c11 : a0 ≤ 57
      · rw [if_pos c11] at H
        have c11b0 : decide (a0 ≤ 57) = true := decide_eq_true c11
        clear c11
        obtain rfl := Option.some.inj H
        go_enter Tryd.func24, Tryd.ntmps24
        go_wp2
        go_ret
        exact ⟨by first | rfl | (simp [errW_none, errW_some] <;> rfl) | (simp [*, errW_none, errW_some] <;> rfl), by repeat (first | (with_reducible first | exact HB.out | apply below_alloc | apply pw_below_drewN | apply below_drew1) | exact HB.out)⟩
      · rw [if_neg c11] at H
        have c11b0 : decide (a0 ≤ 57) = false := decide_eq_false c11
        clear c11
        replace H := Option.bind_eq_some_iff.mp H
        obtain ⟨t103, A120, H⟩ := H
        replace H : (some t103) = some r := H
        have A12 := Aside0.mk A120
        clear A120
        obtain rfl := Option.some.inj H
        go_enter Tryd.func24, Tryd.ntmps24
        go_wp2_with (first | (go_at_call 27; (with_reducible refine (strings_ContainsRune.calls (⟨#[46, 47, 45]⟩ : ByteArray) a0 t103 _ A12.out).mono ?_); rintro e w13 ⟨rfl, hb⟩; have n0_ := Aside0.mk (below_step (by repeat (first | (with_reducible first | exact HB.out | apply below_alloc | apply pw_below_drewN | apply below_drew1) | exact HB.out)) hb); clear HB; have HB := n0_; clear n0_; (try clear hb); (try clear hb2); (try clear hk); (try clear hi)))
        go_ret
        exact ⟨by first | rfl | (simp [errW_none, errW_some] <;> rfl) | (simp [*, errW_none, errW_some] <;> rfl), by repeat (first | (with_reducible first | exact HB.out | apply below_alloc | apply pw_below_drewN | apply below_drew1) | exact HB.out)⟩
    · rw [if_neg c10] at H
      have c10b0 : decide (48 ≤ a0) = false := decide_eq_false c10
      clear c10
      replace H := Option.bind_eq_some_iff.mp H
      obtain ⟨t104, A140, H⟩ := H
      replace H : (some t104) = some r := H
      have A14 := Aside0.mk A140
      clear A140
      obtain rfl := Option.some.inj H
      go_enter Tryd.func24, Tryd.ntmps24
      go_wp2_with (first | (go_at_call 27; (with_reducible refine (strings_ContainsRune.calls (⟨#[46, 47, 45]⟩ : ByteArray) a0 t104 _ A14.out).mono ?_); rintro e w15 ⟨rfl, hb⟩; have n0_ := Aside0.mk (below_step (by repeat (first | (with_reducible first | exact HB.out | apply below_alloc | apply pw_below_drewN | apply below_drew1) | exact HB.out)) hb); clear HB; have HB := n0_; clear n0_; (try clear hb); (try clear hb2); (try clear hk); (try clear hi)))
      go_ret
      exact ⟨by first | rfl | (simp [errW_none, errW_some] <;> rfl) | (simp [*, errW_none, errW_some] <;> rfl), by repeat (first | (with_reducible first | exact HB.out | apply below_alloc | apply pw_below_drewN | apply below_drew1) | exact HB.out)⟩

end Go.Proofs.YtmohglifmoecnaaDoor.PPla
