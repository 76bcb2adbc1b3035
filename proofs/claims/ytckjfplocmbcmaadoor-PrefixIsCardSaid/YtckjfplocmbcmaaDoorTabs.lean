/- What the package-level variables hold that the functions of this seat read (the search's length, strconv's two errors and its powers of ten), as a condition on the world that every change behind the call's own blocks leaves alone; no statement of a law is in here. -/
import Derived.Test.YtckjfplocmbcmaaDoorProg
import Derived.Lib.LaidTab
import Derived.Lib.ItoaNum
import Derived.WalkSmall
import Derived.KernelRfl
namespace Go.Proofs.YtckjfplocmbcmaaDoor
open Go.RowKit
structure Tabs (w : World) : Prop where
  pow : Lib.TabIs Tryd.prog w "internal/strconv.uint64pow10" .u64 Lib.pow10Tab
  maxLen : ∃ m, w.cell? ⟨0, 0, none⟩ = some (.int .i64 m)
  syn : ∃ tp p, w.var? Tryd.prog "strconv.ErrSyntax" = some #[.iface tp p]
  rng : ∃ tp p, w.var? Tryd.prog "strconv.ErrRange" = some #[.iface tp p]
  size : 4 ≤ w.heap.size
theorem gSyn : Tryd.prog.globalNamed "strconv.ErrSyntax" = some 1 := by kernel_rfl
theorem gRng : Tryd.prog.globalNamed "strconv.ErrRange" = some 2 := by kernel_rfl
theorem gPow : Tryd.prog.globalNamed "internal/strconv.uint64pow10" = some 3 := by kernel_rfl
theorem Tabs.below {w w' : World} (h : Tabs w) (hb : Below w.heap.size w w') : Tabs w' where
  pow := Go.var?_below hb gPow (Nat.lt_of_lt_of_le (by decide) h.size) h.pow
  maxLen := by
    obtain ⟨m, hm⟩ := h.maxLen
    exact ⟨m, (Below.cell hb (Nat.lt_of_lt_of_le (by decide) h.size)).trans hm⟩
  syn := by
    obtain ⟨tp, p, hv⟩ := h.syn
    exact ⟨tp, p, Go.var?_below hb gSyn (Nat.lt_of_lt_of_le (by decide) h.size) hv⟩
  rng := by
    obtain ⟨tp, p, hv⟩ := h.rng
    exact ⟨tp, p, Go.var?_below hb gRng (Nat.lt_of_lt_of_le (by decide) h.size) hv⟩
  size := Nat.le_trans h.size hb.size
end Go.Proofs.YtckjfplocmbcmaaDoor
