/- The row of the law ridgewaylaw02_PrefixBack, out of its pure statement (YtckjfplocmbcmaaDoorPurePrefixBack) and its walk; written by a program of this session's (wip/tools). For every input the call returns true, and each argument reads as it did; no condition. -/
import Derived.Test.YtckjfplocmbcmaaDoorRows
import Derived.Test.YtckjfplocmbcmaaDoorPdPrefixBack
import Derived.Test.YtckjfplocmbcmaaDoorPurePrefixBack
import Derived.WalkKit
import Derived.ProofKit
import Derived.OpenShut
import Derived.ShutString
import Derived.ChangeOld
import Derived.Below
import Derived.SizedLaws
import Derived.Test.YtckjfplocmbcmaaDoorTabsOf
import Derived.Test.YtckjfplocmbcmaaDoorCards
import Derived.Test.YtckjfplocmbcmaaDoorTie
import Derived.LaidMore
import Derived.SevenTiedAt
import Derived.Stop.Joined
namespace Go.Proofs.YtckjfplocmbcmaaDoor.prefixBack
open Go.ChangeShapes Go.WideShapes Go.ChangeAt Go.RowKit
open Go.ChangeMaps (open_string shut_string)
set_option linter.unusedVariables false
theorem own : ownKnob Tryd.prog.godebug = none := by kernel_rfl
theorem laidOut : laidOutB Tryd.prog = true := by kernel_rfl
open Go.Proofs.YtckjfplocmbcmaaDoorW.PrintWords in
theorem calls_walk_prefixBack (w : World) (x0 : List (PAll.S23)) (A0 : Option Addr) (c0 : Nat) (x1 : List Int) (A1 : Option Addr) (c1 : Nat) (hl0 : x0.length ≤ c0) (hC0 : Kd.C PAll.k23 w A0 x0.length x0) (hG0 : PAll.g28 x0) (hl1 : x1.length ≤ c1) (hC1 : Kd.C (Kd.int .u8) w A1 x1.length x1) (hG1 : PAll.g24 x1) (hT : Tabs w) :
    Calls Tryd.prog 4 #[.slice A0 x0.length c0, .slice A1 x1.length c1] w fun e w' => e = .returned (.bool true) ∧ Below w.heap.size w w' := PAll.ridgewaylaw02_PrefixBack.walk Pure.PrefixBack x0 A0 c0 x1 A1 c1 w hl0 hC0 hG0 hl1 hC1 hG1 hT
set_option maxRecDepth 100000 in
theorem lifted (os : Os) (started : os.Started) (H : Type) (enc : TypeId × Value → H) :
    ReturnsInHanded {} Tryd.checked os 4 .any (fun w args => (Rows.prefixBackSpec.pre enc Tryd.prog Tryd.f4 [] false w args ∧ laidMetH Tryd.prog laidL w) ∧ sizedMet enc Tryd.prog Tryd.f4 (OpenSpec.ofChange Rows.prefixBackSpec) false w args) (Rows.prefixBackSpec.post enc Tryd.prog Tryd.f4 false true false false) := by
  refine wrapShaped (C := Tryd.checked) (X := (fun w _ => laidMetH Tryd.prog laidL w)) (fun _ _ _ hh h => h.of_heap hh) own started (by kernel_rfl) Tryd.func4
    (ChangeSpec.witness_shaped (enc := enc) (C := Tryd.checked) (os := os) (X := (fun w _ => laidMetH Tryd.prog laidL w)) false (doorW os) #[.slice none 0 0, .slice none 0 0] 8 (by first | rfl | exact doorW_os os) (doorW_shaped os _) (by kernel_rfl) (by kernel_rfl) (by kernel_rfl) (door_met os _)) ?_
  intro W base args ds gs before hval0 hW hcnd hsz0 hL hsh _
  have hsz : (DataW.weightsEach Tryd.prog (Tryd.f4.params.toList ++ Rows.prefixBackSpec.plain.varTypes Tryd.prog) (ds ++ gs)).all (· ≤ reachBytes) = true := hsz0
  have hval : ∀ (j : Nat) t v, Tryd.f4.params[j]? = some t → args[j]? = some v → Value.okWide Tryd.prog W .any base t v := hval0
  have hW' := hW
  obtain ⟨p, q, hA0, hV, rfl, hfz, hnd⟩ := hW
  have hA : DataW.TrodAll enc Tryd.prog W 0 (fun _ => true) true Tryd.f4.params.toList args.toList ds p := hA0
  rw [Tryd.params4] at hA hval hsz
  obtain ⟨v0, vs0, d0, ds0, p0, q0, hargs, rfl, rfl, h0, r0⟩ := trodAll_cons hA
  obtain ⟨v1, vs1, d1, ds1, p1, q1, rfl, rfl, rfl, h1, r1⟩ := trodAll_cons r0
  obtain ⟨rfl, rfl, rfl⟩ := trodAll_nil r1
  obtain rfl : args = #[v0, v1] := by cases args; simp_all
  obtain ⟨rfl, rfl⟩ := trodVars_none hV
  have k0 := h0
  have lt0 : ∀ x ∈ p0, x.block < W.heap.size := by obtain ⟨m, hm⟩ := k0; exact DataW.trod_lt m _ _ _ hm
  have wt0 := Op.weights_of hsz (j := 0) (t := 28) rfl rfl
  obtain ⟨a0, len0, cap0, rfl⟩ := okWide_slice Tryd.underlying28 (hval 0 28 v0 rfl rfl)
  obtain ⟨fu0, hf0⟩ := h0
  obtain ⟨x0, ⟨A0, c0, he0, hl0, hC0⟩, hG0⟩ := PAll.o28.out hf0 wt0
  have he0' : [Value.slice a0 len0 cap0] = [.slice A0 x0.length c0] := he0
  simp only [List.cons.injEq, Value.slice.injEq, and_true] at he0'
  obtain ⟨rfl, rfl, rfl⟩ := he0'
  have k1 := h1
  have lt1 : ∀ x ∈ p1, x.block < W.heap.size := by obtain ⟨m, hm⟩ := k1; exact DataW.trod_lt m _ _ _ hm
  have wt1 := Op.weights_of hsz (j := 1) (t := 24) rfl rfl
  obtain ⟨a1, len1, cap1, rfl⟩ := okWide_slice Tryd.underlying24 (hval 1 24 v1 rfl rfl)
  obtain ⟨fu1, hf1⟩ := h1
  obtain ⟨x1, ⟨A1, c1, he1, hl1, hC1⟩, hG1⟩ := PAll.o24.out hf1 wt1
  have he1' : [Value.slice a1 len1 cap1] = [.slice A1 x1.length c1] := he1
  simp only [List.cons.injEq, Value.slice.injEq, and_true] at he1'
  obtain ⟨rfl, rfl, rfl⟩ := he1'
  clear hA0 hval0 hsz0 hsz
  refine (calls_walk_prefixBack W x0 a0 cap0 x1 a1 cap1 hl0 hC0 hG0 hl1 hC1 hG1 (Tabs.of_laid hL hsh)).mono fun e W' ⟨he, bel⟩ => ?_
  subst he
  exact ⟨_, rfl, _, _, _, [], _, [], hW', trodAll_mk1 (shut_bool Tryd.underlying4 _), (trodAll_cons_mk (Below.trod laidOut (by kernel_rfl) (of_decide_eq_true (by kernel_rfl)) k0 bel lt0) (trodAll_cons_mk (Below.trod laidOut (by kernel_rfl) (of_decide_eq_true (by kernel_rfl)) k1 bel lt1) trodAll_mk0)), rfl, bel.frame _, fun h => by cases h⟩
theorem over : Rows.prefixBackRow.holds Tryd.pinned (OpenSpec.ofChange Rows.prefixBackSpec) :=
  OpenClaim.holds_of_wide 4 Tryd.f4 rfl rfl rfl rfl rfl rfl rfl ⟨rfl, rfl, rfl, rfl, rfl⟩ rfl rfl rfl rfl rfl (by kernel_rfl) Tryd.func4 (by kernel_rfl)
    (of_decide_eq_true (by kernel_rfl)) (by unfold Func.isWrapper; first | (rw [if_pos (by decide +kernel)]; kernel_rfl) | (rw [if_neg (by decide +kernel)]; exact ⟨rfl, rfl⟩))
    (fun os started H enc _ => lifted os started H enc)
theorem standIns : ∀ t ∈ ([24, 28] : List Nat), Tryd.prog.wantsStandIn t = false := by
  intro t ht
  simp only [List.mem_cons, List.not_mem_nil, or_false] at ht
  rcases ht with rfl | rfl <;> exact (show Tryd.prog.wantsStandIn _ = false by kernel_rfl)
theorem proved : Rows.PrefixBackCardSaid :=
  Claim7.holds_tied_plain_at .later [] [.data, .data, .data, .data, .sentinel, .sentinel, .pinned] true (true, "c2ea11ffe666c8b1a0c55ea4d55fb55a789cf4b750a2eb18f465422919e30aed") true
    over (fun _ h => by cases h) (by kernel_rfl) (fun _ h => by cases h) prefixBack_row_tie rfl ⟨rfl, rfl⟩ (by kernel_rfl) rfl
    (fun f fn hf hfn => by
      obtain rfl : f = 4 := Option.some.inj ((show Tryd.prog.funcNamed "ridgeway/ridgewaylaw02.PrefixBack" = some 4 by kernel_rfl).symm.trans hf) |>.symm
      obtain rfl : fn = Tryd.f4 := (Option.some.inj (Tryd.func4.symm.trans hfn)).symm
      exact ⟨by kernel_rfl, fun j t ht => standIns t (by
        rw [Tryd.params4] at ht
        have := List.mem_of_getElem? (show ([28, 24] : List Nat)[j]? = some t by simpa using ht)
        simp only [List.mem_cons, List.not_mem_nil, or_false] at this ⊢
        omega)⟩)
    (by kernel_rfl)
#print axioms proved
end Go.Proofs.YtckjfplocmbcmaaDoor.prefixBack
namespace Go.Proofs.YtckjfplocmbcmaaDoor
/-- The tied card, under a short name, for the claim. -/
theorem prefixBack_holds : Rows.PrefixBackCardSaid := prefixBack.proved
end Go.Proofs.YtckjfplocmbcmaaDoor
