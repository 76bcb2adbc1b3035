/- The row of the law ridgewaylaw02_PrefixHas, out of its pure statement (YtckjfplocmbcmaaDoorPurePrefixHas) and its walk; written by a program of this session's (wip/tools). For every input the call returns true, and each argument reads as it did; no condition. -/
import Derived.Test.YtckjfplocmbcmaaDoorRows
import Derived.Test.YtckjfplocmbcmaaDoorPdPrefixHas
import Derived.Test.YtckjfplocmbcmaaDoorPurePrefixHas
import Derived.WalkKit
import Derived.ProofKit
import Derived.OpenShut
import Derived.ShutString
import Derived.ChangeOld
import Derived.Below
import Derived.SizedLaws
import Derived.Test.YtckjfplocmbcmaaDoorTabsOf
import Derived.Test.YtckjfplocmbcmaaDoorCards
import Derived.Test.YtckjfplocmbcmaaDoorTie
import Derived.LaidMore
import Derived.SevenTiedAt
import Derived.Stop.Joined
namespace Go.Proofs.YtckjfplocmbcmaaDoor.prefixHas
open Go.ChangeShapes Go.WideShapes Go.ChangeAt Go.RowKit
open Go.ChangeMaps (open_string shut_string)
set_option linter.unusedVariables false
theorem own : ownKnob Tryd.prog.godebug = none := by kernel_rfl
theorem laidOut : laidOutB Tryd.prog = true := by kernel_rfl
open Go.Proofs.YtckjfplocmbcmaaDoorW.PrintWords in
theorem calls_walk_prefixHas (w : World) (x0 : PAll.S23) (cs0 : List Value) (x1 : PAll.S23) (cs1 : List Value) (x2 : PAll.S23) (cs2 : List Value) (x3 : Int) (x4 : Int) (x5 : Int) (hK0 : PAll.k23.K w x0 cs0) (hG0 : PAll.g23 x0) (hK1 : PAll.k23.K w x1 cs1) (hG1 : PAll.g23 x1) (hK2 : PAll.k23.K w x2 cs2) (hG2 : PAll.g23 x2) (hG3 : PAll.g3 x3) (hG4 : PAll.g3 x4) (hG5 : PAll.g3 x5) (hT : Tabs w) :
    Calls Tryd.prog 7 #[.agg cs0.toArray, .agg cs1.toArray, .agg cs2.toArray, .int .i64 x3, .int .i64 x4, .int .i64 x5] w fun e w' => e = .returned (.bool true) ∧ Below w.heap.size w w' := PAll.ridgewaylaw02_PrefixHas.walk Pure.PrefixHas x0 cs0 x1 cs1 x2 cs2 x3 x4 x5 w hK0 hG0 hK1 hG1 hK2 hG2 hG3 hG4 hG5 hT
set_option maxRecDepth 100000 in
theorem lifted (os : Os) (started : os.Started) (H : Type) (enc : TypeId × Value → H) :
    ReturnsInHanded {} Tryd.checked os 7 .any (fun w args => (Rows.prefixHasSpec.pre enc Tryd.prog Tryd.f7 [] false w args ∧ laidMetH Tryd.prog laidL w) ∧ sizedMet enc Tryd.prog Tryd.f7 (OpenSpec.ofChange Rows.prefixHasSpec) false w args) (Rows.prefixHasSpec.post enc Tryd.prog Tryd.f7 false true false false) := by
  refine wrapShaped (C := Tryd.checked) (X := (fun w _ => laidMetH Tryd.prog laidL w)) (fun _ _ _ hh h => h.of_heap hh) own started (by kernel_rfl) Tryd.func7
    (ChangeSpec.witness_shaped (enc := enc) (C := Tryd.checked) (os := os) (X := (fun w _ => laidMetH Tryd.prog laidL w)) false (doorW os) #[.agg #[.int .i64 0, .int .i64 0], .agg #[.int .i64 0, .int .i64 0], .agg #[.int .i64 0, .int .i64 0], .int .i64 0, .int .i64 0, .int .i64 0] 8 (by first | rfl | exact doorW_os os) (doorW_shaped os _) (by kernel_rfl) (by kernel_rfl) (by kernel_rfl) (door_met os _)) ?_
  intro W base args ds gs before hval0 hW hcnd hsz0 hL hsh _
  have hsz : (DataW.weightsEach Tryd.prog (Tryd.f7.params.toList ++ Rows.prefixHasSpec.plain.varTypes Tryd.prog) (ds ++ gs)).all (· ≤ reachBytes) = true := hsz0
  have hval : ∀ (j : Nat) t v, Tryd.f7.params[j]? = some t → args[j]? = some v → Value.okWide Tryd.prog W .any base t v := hval0
  have hW' := hW
  obtain ⟨p, q, hA0, hV, rfl, hfz, hnd⟩ := hW
  have hA : DataW.TrodAll enc Tryd.prog W 0 (fun _ => true) true Tryd.f7.params.toList args.toList ds p := hA0
  rw [Tryd.params7] at hA hval hsz
  obtain ⟨v0, vs0, d0, ds0, p0, q0, hargs, rfl, rfl, h0, r0⟩ := trodAll_cons hA
  obtain ⟨v1, vs1, d1, ds1, p1, q1, rfl, rfl, rfl, h1, r1⟩ := trodAll_cons r0
  obtain ⟨v2, vs2, d2, ds2, p2, q2, rfl, rfl, rfl, h2, r2⟩ := trodAll_cons r1
  obtain ⟨v3, vs3, d3, ds3, p3, q3, rfl, rfl, rfl, h3, r3⟩ := trodAll_cons r2
  obtain ⟨v4, vs4, d4, ds4, p4, q4, rfl, rfl, rfl, h4, r4⟩ := trodAll_cons r3
  obtain ⟨v5, vs5, d5, ds5, p5, q5, rfl, rfl, rfl, h5, r5⟩ := trodAll_cons r4
  obtain ⟨rfl, rfl, rfl⟩ := trodAll_nil r5
  obtain rfl : args = #[v0, v1, v2, v3, v4, v5] := by cases args; simp_all
  obtain ⟨rfl, rfl⟩ := trodVars_none hV
  have k0 := h0
  have lt0 : ∀ x ∈ p0, x.block < W.heap.size := by obtain ⟨m, hm⟩ := k0; exact DataW.trod_lt m _ _ _ hm
  have wt0 := Op.weights_of hsz (j := 0) (t := 23) rfl rfl
  obtain ⟨cs0, rfl, -⟩ := okWide_struct Tryd.underlying23 (hval 0 23 v0 rfl rfl)
  obtain ⟨fu0, hf0⟩ := h0
  obtain ⟨x0, hK0, hG0⟩ := PAll.o23.out hf0 wt0
  have hK0' : PAll.k23.K W x0 cs0.toList := hK0
  have k1 := h1
  have lt1 : ∀ x ∈ p1, x.block < W.heap.size := by obtain ⟨m, hm⟩ := k1; exact DataW.trod_lt m _ _ _ hm
  have wt1 := Op.weights_of hsz (j := 1) (t := 23) rfl rfl
  obtain ⟨cs1, rfl, -⟩ := okWide_struct Tryd.underlying23 (hval 1 23 v1 rfl rfl)
  obtain ⟨fu1, hf1⟩ := h1
  obtain ⟨x1, hK1, hG1⟩ := PAll.o23.out hf1 wt1
  have hK1' : PAll.k23.K W x1 cs1.toList := hK1
  have k2 := h2
  have lt2 : ∀ x ∈ p2, x.block < W.heap.size := by obtain ⟨m, hm⟩ := k2; exact DataW.trod_lt m _ _ _ hm
  have wt2 := Op.weights_of hsz (j := 2) (t := 23) rfl rfl
  obtain ⟨cs2, rfl, -⟩ := okWide_struct Tryd.underlying23 (hval 2 23 v2 rfl rfl)
  obtain ⟨fu2, hf2⟩ := h2
  obtain ⟨x2, hK2, hG2⟩ := PAll.o23.out hf2 wt2
  have hK2' : PAll.k23.K W x2 cs2.toList := hK2
  have k3 := h3
  have lt3 : ∀ x ∈ p3, x.block < W.heap.size := by obtain ⟨m, hm⟩ := k3; exact DataW.trod_lt m _ _ _ hm
  have wt3 := Op.weights_of hsz (j := 3) (t := 3) rfl rfl
  obtain ⟨x3, rfl, rfl, rfl, hG3⟩ := open_int Tryd.underlying3 (hval 3 3 v3 rfl rfl) h3
  have k4 := h4
  have lt4 : ∀ x ∈ p4, x.block < W.heap.size := by obtain ⟨m, hm⟩ := k4; exact DataW.trod_lt m _ _ _ hm
  have wt4 := Op.weights_of hsz (j := 4) (t := 3) rfl rfl
  obtain ⟨x4, rfl, rfl, rfl, hG4⟩ := open_int Tryd.underlying3 (hval 4 3 v4 rfl rfl) h4
  have k5 := h5
  have lt5 : ∀ x ∈ p5, x.block < W.heap.size := by obtain ⟨m, hm⟩ := k5; exact DataW.trod_lt m _ _ _ hm
  have wt5 := Op.weights_of hsz (j := 5) (t := 3) rfl rfl
  obtain ⟨x5, rfl, rfl, rfl, hG5⟩ := open_int Tryd.underlying3 (hval 5 3 v5 rfl rfl) h5
  clear hA0 hval0 hsz0 hsz
  refine (calls_walk_prefixHas W x0 cs0.toList x1 cs1.toList x2 cs2.toList x3 x4 x5 hK0' hG0 hK1' hG1 hK2' hG2 hG3 hG4 hG5 (Tabs.of_laid hL hsh)).mono fun e W' ⟨he, bel⟩ => ?_
  subst he
  exact ⟨_, rfl, _, _, _, [], _, [], hW', trodAll_mk1 (shut_bool Tryd.underlying4 _), (trodAll_cons_mk (Below.trod laidOut (by kernel_rfl) (of_decide_eq_true (by kernel_rfl)) k0 bel lt0) (trodAll_cons_mk (Below.trod laidOut (by kernel_rfl) (of_decide_eq_true (by kernel_rfl)) k1 bel lt1) (trodAll_cons_mk (Below.trod laidOut (by kernel_rfl) (of_decide_eq_true (by kernel_rfl)) k2 bel lt2) (trodAll_cons_mk (Below.trod laidOut (by kernel_rfl) (of_decide_eq_true (by kernel_rfl)) k3 bel lt3) (trodAll_cons_mk (Below.trod laidOut (by kernel_rfl) (of_decide_eq_true (by kernel_rfl)) k4 bel lt4) (trodAll_cons_mk (Below.trod laidOut (by kernel_rfl) (of_decide_eq_true (by kernel_rfl)) k5 bel lt5) trodAll_mk0)))))), rfl, bel.frame _, fun h => by cases h⟩
theorem over : Rows.prefixHasRow.holds Tryd.pinned (OpenSpec.ofChange Rows.prefixHasSpec) :=
  OpenClaim.holds_of_wide 7 Tryd.f7 rfl rfl rfl rfl rfl rfl rfl ⟨rfl, rfl, rfl, rfl, rfl⟩ rfl rfl rfl rfl rfl (by kernel_rfl) Tryd.func7 (by kernel_rfl)
    (of_decide_eq_true (by kernel_rfl)) (by unfold Func.isWrapper; first | (rw [if_pos (by decide +kernel)]; kernel_rfl) | (rw [if_neg (by decide +kernel)]; exact ⟨rfl, rfl⟩))
    (fun os started H enc _ => lifted os started H enc)
theorem standIns : ∀ t ∈ ([3, 23] : List Nat), Tryd.prog.wantsStandIn t = false := by
  intro t ht
  simp only [List.mem_cons, List.not_mem_nil, or_false] at ht
  rcases ht with rfl | rfl <;> exact (show Tryd.prog.wantsStandIn _ = false by kernel_rfl)
theorem proved : Rows.PrefixHasCardSaid :=
  Claim7.holds_tied_plain_at .later [] [.data, .data, .data, .data, .sentinel, .sentinel, .pinned] true (true, "c2ea11ffe666c8b1a0c55ea4d55fb55a789cf4b750a2eb18f465422919e30aed") true
    over (fun _ h => by cases h) (by kernel_rfl) (fun _ h => by cases h) prefixHas_row_tie rfl ⟨rfl, rfl⟩ (by kernel_rfl) rfl
    (fun f fn hf hfn => by
      obtain rfl : f = 7 := Option.some.inj ((show Tryd.prog.funcNamed "ridgeway/ridgewaylaw02.PrefixHas" = some 7 by kernel_rfl).symm.trans hf) |>.symm
      obtain rfl : fn = Tryd.f7 := (Option.some.inj (Tryd.func7.symm.trans hfn)).symm
      exact ⟨by kernel_rfl, fun j t ht => standIns t (by
        rw [Tryd.params7] at ht
        have := List.mem_of_getElem? (show ([23, 23, 23, 3, 3, 3] : List Nat)[j]? = some t by simpa using ht)
        simp only [List.mem_cons, List.not_mem_nil, or_false] at this ⊢
        omega)⟩)
    (by kernel_rfl)
#print axioms proved
end Go.Proofs.YtckjfplocmbcmaaDoor.prefixHas
namespace Go.Proofs.YtckjfplocmbcmaaDoor
/-- The tied card, under a short name, for the claim. -/
theorem prefixHas_holds : Rows.PrefixHasCardSaid := prefixHas.proved
end Go.Proofs.YtckjfplocmbcmaaDoor
