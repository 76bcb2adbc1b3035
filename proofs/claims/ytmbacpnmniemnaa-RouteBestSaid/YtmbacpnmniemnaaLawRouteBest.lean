/- The row of the law ridgewaylaw09_RouteBest, out of its pure statement (YtmbacpnmniemnaaPureRouteBest) and its walk; written by a program of this session's (wip/tools). For every input the call returns true, and each argument reads as it did; no condition. -/
import Derived.Test.YtmbacpnmniemnaaRows
import Derived.Test.YtmbacpnmniemnaaPdRouteBest
import Derived.Test.YtmbacpnmniemnaaPureRouteBest
import Derived.WalkKit
import Derived.ProofKit
import Derived.OpenShut
import Derived.ShutString
import Derived.ChangeOld
import Derived.Below
import Derived.SizedLaws
namespace Go.Proofs.Ytmbacpnmniemnaa.routeBest
open Go.ChangeShapes Go.WideShapes Go.ChangeAt Go.RowKit
open Go.ChangeMaps (open_string shut_string)
set_option linter.unusedVariables false
theorem own : ownKnob Try.prog.godebug = none := by kernel_rfl
theorem laidOut : laidOutB Try.prog = true := by kernel_rfl
open Go.Proofs.YtmbacpnmniemnaaW.PrintWords in
theorem calls_walk_routeBest (w : World) (x0 : List (PAll.S27)) (A0 : Option Addr) (c0 : Nat) (x1 : List (PAll.S27)) (A1 : Option Addr) (c1 : Nat) (hl0 : x0.length ≤ c0) (hC0 : Kd.C PAll.k27 w A0 x0.length x0) (hG0 : PAll.g22 x0) (hl1 : x1.length ≤ c1) (hC1 : Kd.C PAll.k27 w A1 x1.length x1) (hG1 : PAll.g22 x1) :
    Calls Try.prog 6 #[.slice A0 x0.length c0, .slice A1 x1.length c1] w fun e w' => e = .returned (.bool true) ∧ Below w.heap.size w w' := PAll.ridgewaylaw09_RouteBest.walk Pure.RouteBest x0 A0 c0 x1 A1 c1 w hl0 hC0 hG0 hl1 hC1 hG1
set_option maxRecDepth 100000 in
theorem lifted (os : Os) (started : os.Started) (H : Type) (enc : TypeId × Value → H) :
    ReturnsInHanded {} Try.checked os 6 .any (Rows.routeBestSpec.pre6 enc Try.prog Try.f6 Rows.routeBestRow.domain false) (Rows.routeBestSpec.post enc Try.prog Try.f6 false true false false) := by
  refine returnsInHanded_of_change_sized (C := Try.checked) own started (by kernel_rfl) Try.func6
    (ChangeSpec.witness6 (enc := enc) (C := Try.checked) false ⟨#[], #[.slice none 0 0, .slice none 0 0], []⟩ 8 (by kernel_rfl) (by kernel_rfl) (by kernel_rfl) (by kernel_rfl)) ?_
  intro W base args ds gs before hval0 hW hcnd hsz0 _
  have hsz : (DataW.weightsEach Try.prog (Try.f6.params.toList ++ Rows.routeBestSpec.plain.varTypes Try.prog) (ds ++ gs)).all (· ≤ reachBytes) = true := hsz0
  have hval : ∀ (j : Nat) t v, Try.f6.params[j]? = some t → args[j]? = some v → Value.okWide Try.prog W .any base t v := hval0
  have hW' := hW
  obtain ⟨p, q, hA0, hV, rfl, hfz, hnd⟩ := hW
  have hA : DataW.TrodAll enc Try.prog W 0 (fun _ => true) true Try.f6.params.toList args.toList ds p := hA0
  rw [Try.params6] at hA hval hsz
  obtain ⟨v0, vs0, d0, ds0, p0, q0, hargs, rfl, rfl, h0, r0⟩ := trodAll_cons hA
  obtain ⟨v1, vs1, d1, ds1, p1, q1, rfl, rfl, rfl, h1, r1⟩ := trodAll_cons r0
  obtain ⟨rfl, rfl, rfl⟩ := trodAll_nil r1
  obtain rfl : args = #[v0, v1] := by cases args; simp_all
  obtain ⟨rfl, rfl⟩ := trodVars_none hV
  have k0 := h0
  have lt0 : ∀ x ∈ p0, x.block < W.heap.size := by obtain ⟨m, hm⟩ := k0; exact DataW.trod_lt m _ _ _ hm
  have wt0 := Op.weights_of hsz (j := 0) (t := 22) rfl rfl
  obtain ⟨a0, len0, cap0, rfl⟩ := okWide_slice Try.underlying22 (hval 0 22 v0 rfl rfl)
  obtain ⟨fu0, hf0⟩ := h0
  obtain ⟨x0, ⟨A0, c0, he0, hl0, hC0⟩, hG0⟩ := PAll.o22.out hf0 wt0
  have he0' : [Value.slice a0 len0 cap0] = [.slice A0 x0.length c0] := he0
  simp only [List.cons.injEq, Value.slice.injEq, and_true] at he0'
  obtain ⟨rfl, rfl, rfl⟩ := he0'
  have k1 := h1
  have lt1 : ∀ x ∈ p1, x.block < W.heap.size := by obtain ⟨m, hm⟩ := k1; exact DataW.trod_lt m _ _ _ hm
  have wt1 := Op.weights_of hsz (j := 1) (t := 22) rfl rfl
  obtain ⟨a1, len1, cap1, rfl⟩ := okWide_slice Try.underlying22 (hval 1 22 v1 rfl rfl)
  obtain ⟨fu1, hf1⟩ := h1
  obtain ⟨x1, ⟨A1, c1, he1, hl1, hC1⟩, hG1⟩ := PAll.o22.out hf1 wt1
  have he1' : [Value.slice a1 len1 cap1] = [.slice A1 x1.length c1] := he1
  simp only [List.cons.injEq, Value.slice.injEq, and_true] at he1'
  obtain ⟨rfl, rfl, rfl⟩ := he1'
  clear hA0 hval0 hsz0 hsz
  refine (calls_walk_routeBest W x0 a0 cap0 x1 a1 cap1 hl0 hC0 hG0 hl1 hC1 hG1).mono fun e W' ⟨he, bel⟩ => ?_
  subst he
  exact ⟨_, rfl, _, _, _, [], _, [], hW', trodAll_mk1 (shut_bool Try.underlying4 _), (trodAll_cons_mk (Below.trod laidOut (by kernel_rfl) (of_decide_eq_true (by kernel_rfl)) k0 bel lt0) (trodAll_cons_mk (Below.trod laidOut (by kernel_rfl) (of_decide_eq_true (by kernel_rfl)) k1 bel lt1) trodAll_mk0)), rfl, bel.frame _, fun h => by cases h⟩
theorem over : Rows.routeBestRow.holds Try.pinned (OpenSpec.ofChange Rows.routeBestSpec) :=
  OpenClaim.holds_of_wide 6 Try.f6 rfl rfl rfl rfl rfl rfl rfl ⟨rfl, rfl, rfl, rfl, rfl⟩ rfl rfl rfl rfl rfl (by kernel_rfl) Try.func6 (by kernel_rfl)
    (of_decide_eq_true (by kernel_rfl)) (by unfold Func.isWrapper; first | (rw [if_pos (by decide +kernel)]; kernel_rfl) | (rw [if_neg (by decide +kernel)]; exact ⟨rfl, rfl⟩))
    (fun os started H enc _ => lifted os started H enc)
theorem proved : Rows.RouteBestSaid := over
#print axioms proved
end Go.Proofs.Ytmbacpnmniemnaa.routeBest
namespace Go.Proofs.Ytmbacpnmniemnaa
/-- The row, under a short name, for the claim. -/
theorem routeBest_holds : Rows.RouteBestSaid := routeBest.proved
end Go.Proofs.Ytmbacpnmniemnaa
