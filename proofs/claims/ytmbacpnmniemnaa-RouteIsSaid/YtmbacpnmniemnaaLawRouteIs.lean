/- The row of the law ridgewaylaw09_RouteIs, out of its pure statement (YtmbacpnmniemnaaPureRouteIs) and its walk; written by a program of this session's (wip/tools). For every input the call returns true, and each argument reads as it did; no condition. -/
import Derived.Test.YtmbacpnmniemnaaRows
import Derived.Test.YtmbacpnmniemnaaPdRouteIs
import Derived.Test.YtmbacpnmniemnaaPureRouteIs
import Derived.WalkKit
import Derived.ProofKit
import Derived.OpenShut
import Derived.ShutString
import Derived.ChangeOld
import Derived.Below
import Derived.SizedLaws
namespace Go.Proofs.Ytmbacpnmniemnaa.routeIs
open Go.ChangeShapes Go.WideShapes Go.ChangeAt Go.RowKit
open Go.ChangeMaps (open_string shut_string)
set_option linter.unusedVariables false
theorem own : ownKnob Try.prog.godebug = none := by kernel_rfl
theorem laidOut : laidOutB Try.prog = true := by kernel_rfl
open Go.Proofs.YtmbacpnmniemnaaW.PrintWords in
theorem calls_walk_routeIs (w : World) (x0 : List (PAll.S27)) (A0 : Option Addr) (c0 : Nat) (x1 : PAll.S27) (cs1 : List Value) (x2 : Int) (hl0 : x0.length ≤ c0) (hC0 : Kd.C PAll.k27 w A0 x0.length x0) (hG0 : PAll.g22 x0) (hK1 : PAll.k27.K w x1 cs1) (hG1 : PAll.g27 x1) (hG2 : PAll.g3 x2) :
    Calls Try.prog 3 #[.slice A0 x0.length c0, .agg cs1.toArray, .int .i64 x2] w fun e w' => e = .returned (.bool true) ∧ Below w.heap.size w w' := PAll.ridgewaylaw09_RouteIs.walk Pure.RouteIs x0 A0 c0 x1 cs1 x2 w hl0 hC0 hG0 hK1 hG1 hG2
set_option maxRecDepth 100000 in
theorem lifted (os : Os) (started : os.Started) (H : Type) (enc : TypeId × Value → H) :
    ReturnsInHanded {} Try.checked os 3 .any (Rows.routeIsSpec.pre6 enc Try.prog Try.f3 Rows.routeIsRow.domain false) (Rows.routeIsSpec.post enc Try.prog Try.f3 false true false false) := by
  refine returnsInHanded_of_change_sized (C := Try.checked) own started (by kernel_rfl) Try.func3
    (ChangeSpec.witness6 (enc := enc) (C := Try.checked) false ⟨#[], #[.slice none 0 0, .agg #[.int .i64 0, .int .i64 0, .slice none 0 0, .int .i64 0, .int .i64 0, .int .i64 0], .int .i64 0], []⟩ 8 (by kernel_rfl) (by kernel_rfl) (by kernel_rfl) (by kernel_rfl)) ?_
  intro W base args ds gs before hval0 hW hcnd hsz0 _
  have hsz : (DataW.weightsEach Try.prog (Try.f3.params.toList ++ Rows.routeIsSpec.plain.varTypes Try.prog) (ds ++ gs)).all (· ≤ reachBytes) = true := hsz0
  have hval : ∀ (j : Nat) t v, Try.f3.params[j]? = some t → args[j]? = some v → Value.okWide Try.prog W .any base t v := hval0
  have hW' := hW
  obtain ⟨p, q, hA0, hV, rfl, hfz, hnd⟩ := hW
  have hA : DataW.TrodAll enc Try.prog W 0 (fun _ => true) true Try.f3.params.toList args.toList ds p := hA0
  rw [Try.params3] at hA hval hsz
  obtain ⟨v0, vs0, d0, ds0, p0, q0, hargs, rfl, rfl, h0, r0⟩ := trodAll_cons hA
  obtain ⟨v1, vs1, d1, ds1, p1, q1, rfl, rfl, rfl, h1, r1⟩ := trodAll_cons r0
  obtain ⟨v2, vs2, d2, ds2, p2, q2, rfl, rfl, rfl, h2, r2⟩ := trodAll_cons r1
  obtain ⟨rfl, rfl, rfl⟩ := trodAll_nil r2
  obtain rfl : args = #[v0, v1, v2] := by cases args; simp_all
  obtain ⟨rfl, rfl⟩ := trodVars_none hV
  have k0 := h0
  have lt0 : ∀ x ∈ p0, x.block < W.heap.size := by obtain ⟨m, hm⟩ := k0; exact DataW.trod_lt m _ _ _ hm
  have wt0 := Op.weights_of hsz (j := 0) (t := 22) rfl rfl
  obtain ⟨a0, len0, cap0, rfl⟩ := okWide_slice Try.underlying22 (hval 0 22 v0 rfl rfl)
  obtain ⟨fu0, hf0⟩ := h0
  obtain ⟨x0, ⟨A0, c0, he0, hl0, hC0⟩, hG0⟩ := PAll.o22.out hf0 wt0
  have he0' : [Value.slice a0 len0 cap0] = [.slice A0 x0.length c0] := he0
  simp only [List.cons.injEq, Value.slice.injEq, and_true] at he0'
  obtain ⟨rfl, rfl, rfl⟩ := he0'
  have k1 := h1
  have lt1 : ∀ x ∈ p1, x.block < W.heap.size := by obtain ⟨m, hm⟩ := k1; exact DataW.trod_lt m _ _ _ hm
  have wt1 := Op.weights_of hsz (j := 1) (t := 27) rfl rfl
  obtain ⟨cs1, rfl, -⟩ := okWide_struct Try.underlying27 (hval 1 27 v1 rfl rfl)
  obtain ⟨fu1, hf1⟩ := h1
  obtain ⟨x1, hK1, hG1⟩ := PAll.o27.out hf1 wt1
  have hK1' : PAll.k27.K W x1 cs1.toList := hK1
  have k2 := h2
  have lt2 : ∀ x ∈ p2, x.block < W.heap.size := by obtain ⟨m, hm⟩ := k2; exact DataW.trod_lt m _ _ _ hm
  have wt2 := Op.weights_of hsz (j := 2) (t := 3) rfl rfl
  obtain ⟨x2, rfl, rfl, rfl, hG2⟩ := open_int Try.underlying3 (hval 2 3 v2 rfl rfl) h2
  clear hA0 hval0 hsz0 hsz
  refine (calls_walk_routeIs W x0 a0 cap0 x1 cs1.toList x2 hl0 hC0 hG0 hK1' hG1 hG2).mono fun e W' ⟨he, bel⟩ => ?_
  subst he
  exact ⟨_, rfl, _, _, _, [], _, [], hW', trodAll_mk1 (shut_bool Try.underlying4 _), (trodAll_cons_mk (Below.trod laidOut (by kernel_rfl) (of_decide_eq_true (by kernel_rfl)) k0 bel lt0) (trodAll_cons_mk (Below.trod laidOut (by kernel_rfl) (of_decide_eq_true (by kernel_rfl)) k1 bel lt1) (trodAll_cons_mk (Below.trod laidOut (by kernel_rfl) (of_decide_eq_true (by kernel_rfl)) k2 bel lt2) trodAll_mk0))), rfl, bel.frame _, fun h => by cases h⟩
theorem over : Rows.routeIsRow.holds Try.pinned (OpenSpec.ofChange Rows.routeIsSpec) :=
  OpenClaim.holds_of_wide 3 Try.f3 rfl rfl rfl rfl rfl rfl rfl ⟨rfl, rfl, rfl, rfl, rfl⟩ rfl rfl rfl rfl rfl (by kernel_rfl) Try.func3 (by kernel_rfl)
    (of_decide_eq_true (by kernel_rfl)) (by unfold Func.isWrapper; first | (rw [if_pos (by decide +kernel)]; kernel_rfl) | (rw [if_neg (by decide +kernel)]; exact ⟨rfl, rfl⟩))
    (fun os started H enc _ => lifted os started H enc)
theorem proved : Rows.RouteIsSaid := over
#print axioms proved
end Go.Proofs.Ytmbacpnmniemnaa.routeIs
namespace Go.Proofs.Ytmbacpnmniemnaa
/-- The row, under a short name, for the claim. -/
theorem routeIs_holds : Rows.RouteIsSaid := routeIs.proved
end Go.Proofs.Ytmbacpnmniemnaa
