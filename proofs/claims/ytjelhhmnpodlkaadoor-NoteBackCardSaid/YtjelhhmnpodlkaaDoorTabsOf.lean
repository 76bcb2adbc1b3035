/- What the listed variables read as gives the tables' condition (Tabs), and the world that start-up leaves meets it; no statement of a law is in here. -/
import Derived.Test.YtjelhhmnpodlkaaDoorRows
import Derived.Test.YtjelhhmnpodlkaaDoorTabs
import Derived.Lib.LaidU8
import Derived.OpenShut
import Derived.ProofKit
import Derived.LaidMore
import Derived.Stop.Joined
import Derived.Lib.AtoiErrMem
namespace Go.Proofs.YtjelhhmnpodlkaaDoor
open Go.ChangeShapes Go.WideShapes Go.ChangeAt Go.RowKit
/-- An array of strings that reads as these strings holds them, cell for cell. -/
theorem cells_of_strs {H : Type} {enc : TypeId × Value → H} {P : Program} {w : World} {base : Nat} {sp : Nat → Bool} {held : Bool} {fuel : Nat} {t e : TypeId} {n : Nat} {cs : List Value} {ss : List ByteArray} {p : List MemPlace}
    (ht : P.underlying t = some (.array n e)) (he : P.underlying e = some .string) (hce : P.cellsOf e = 1) (hct : P.cellsOf t = n)
    (h : DataW.trod enc P w base sp held fuel t cs = some (.agg (ss.map fun s => .lit (.string s.data.toList)), p)) : cs = ss.map Value.string := by
  obtain ⟨xs, m, -, hx, hl, hn, hi⟩ := DataW.trod_array ht h
  have hxs : xs.map (·.1) = ss.map fun s => (DataW.lit (.string s.data.toList) : DataW H) := by
    have := congrArg Prod.fst hx
    simpa using this.symm
  have hsl : ss.length = n := by
    have := congrArg List.length hxs
    simp at this
    omega
  apply List.ext_getElem?
  intro i
  by_cases hin : i < n
  · have h1 := hi i hin
    rw [hce, Nat.mul_one] at h1
    obtain ⟨b, hb⟩ : ∃ b, xs[i]? = some b := ⟨xs[i]'(by omega), List.getElem?_eq_getElem (by omega)⟩
    rw [hb] at h1
    obtain ⟨s, hc, rfl, -⟩ := DataW.trod_string he h1
    have h2 : cs[i]? = some (.string s) := by
      have := congrArg (·[0]?) hc
      simpa [List.getElem?_take, List.getElem?_drop] using this
    have h3 : (xs.map (·.1))[i]? = some (DataW.lit (.string s.data.toList) : DataW H) := by simp [hb]
    rw [hxs] at h3
    simp only [List.getElem?_map, Option.map_eq_some_iff, DataW.lit.injEq, Lit.string.injEq] at h3
    obtain ⟨s', hs', e⟩ := h3
    have : s' = s := by
      cases s'; cases s
      simp only [ByteArray.mk.injEq]
      exact Array.toList_inj.1 e
    subst this
    simp [h2, hs']
  · rw [List.getElem?_eq_none (by omega), List.getElem?_eq_none (by simp; omega)]
def laidL : List (String × DataW Unit) := [("math/bits.deBruijn32tab", Rows.laid_math_bits_deBruijn32tab), ("math/bits.deBruijn64tab", Rows.laid_math_bits_deBruijn64tab), ("internal/strconv.uint64pow10", Rows.laid_internal_strconv_uint64pow10), ("ridgeway/note.names", Rows.laid_ridgeway_note_names), ("ridgeway/note.subs", Rows.laid_ridgeway_note_subs)]
theorem gtSubs : (Tryd.prog.globals[0]?).map (·.type) = some 42 := by kernel_rfl
theorem gtNames : (Tryd.prog.globals[1]?).map (·.type) = some 44 := by kernel_rfl
theorem gtPow : (Tryd.prog.globals[2]?).map (·.type) = some 57 := by kernel_rfl
theorem Tabs.of_laid {W : World} (h : laidMetH Tryd.prog laidL W) : Tabs W := by
  rw [MakeChecks.laidMetH_plain _ _ _ (by kernel_rfl)] at h
  have h1 := Lib.laidMet.reads h (n := "internal/strconv.uint64pow10") (d := Rows.laid_internal_strconv_uint64pow10) (by simp [laidL])
  have h2 := Lib.laidMet.reads h (n := "ridgeway/note.names") (d := Rows.laid_ridgeway_note_names) (by simp [laidL])
  have h3 := Lib.laidMet.reads h (n := "ridgeway/note.subs") (d := Rows.laid_ridgeway_note_subs) (by simp [laidL])
  obtain ⟨g, t, cs, fuel, p, hg, ht, hv, hd⟩ := h1
  obtain rfl := Option.some.inj (gPow.symm.trans hg)
  obtain rfl := Option.some.inj (gtPow.symm.trans ht)
  obtain ⟨g', t', cs', fuel', p', hg', ht', hv', hd'⟩ := h2
  obtain rfl := Option.some.inj (gNames.symm.trans hg')
  obtain rfl := Option.some.inj (gtNames.symm.trans ht')
  obtain ⟨g'', t'', cs'', fuel'', p'', hg'', ht'', hv'', hd''⟩ := h3
  obtain rfl := Option.some.inj (gSubs.symm.trans hg'')
  obtain rfl := Option.some.inj (gtSubs.symm.trans ht'')
  have e1 := Lib.cells_of_tab (zs := Lib.pow10Tab) (k := .u64) Tryd.underlying57 Tryd.underlying51 (by kernel_rfl) (by kernel_rfl) hd
  have e2 := cells_of_strs (ss := namesT) Tryd.underlying44 Tryd.underlying9 (by kernel_rfl) (by kernel_rfl) hd'
  have e3 := Lib.cells_of_tab (zs := subsT) (k := .u64) Tryd.underlying42 Tryd.underlying41 (by kernel_rfl) (by kernel_rfl) hd''
  have hlt : 2 < W.heap.size := by
    have := World.var?_cell gPow hv 0
    rw [show cs = (Lib.pow10Tab.map fun z => Value.int .u64 z).toArray from by rw [← e1]] at this
    exact Lib.lt_of_cell (a := ⟨2, 0, none⟩) (v := .int .u64 1) (this.trans rfl)
  exact ⟨by unfold Lib.TabIs; rw [hv, ← e1], by rw [hv', ← e2], by unfold Lib.TabIs; rw [hv'', ← e3], hlt⟩
noncomputable def doorW (os : Os) : World := World.doorLaid Tryd.prog 34 os
theorem doorW_shaped (os : Os) (args : Array Value) : ((doorW os).forCall (fun _ _ => 0) ⟨#[], args, []⟩).Shaped Tryd.prog := World.shaped_of_RefB (by kernel_rfl) (by kernel_rfl)
theorem door_met (os : Os) (args : Array Value) : laidMetH Tryd.prog laidL ((doorW os).forCall (fun _ _ => 0) ⟨#[], args, []⟩).memory :=
  laidMetH_of_parts3 (fuel := 8) (laidMet_of_run' 8 (by kernel_rfl) (by kernel_rfl)) (by kernel_rfl) (by kernel_rfl)
end Go.Proofs.YtjelhhmnpodlkaaDoor
